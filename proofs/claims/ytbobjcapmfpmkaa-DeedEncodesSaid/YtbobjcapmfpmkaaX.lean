/- The symbolic engine: what a piece of the model's code does to known slots, to blocks of the call's own and to cells that stay, as a proposition that computes. Conditions: none (definitions and lemmas of no program). -/
import Derived.WalkKit
import Derived.Deep.Quiet
set_option linter.unusedVariables false
set_option linter.unusedSimpArgs false
namespace Go.X
open Go.RowKit

abbrev Env := List (Nat × Value)
/-- a block of the call's own: its first cells are known; it has cap cells in all -/
structure Blk where
  b : Nat
  t : TypeId
  cs : List Value
  cap : Nat
abbrev Own := List Blk
/-- cells that are known and stay -/
abbrev PH := Nat → Nat → Option Value
abbrev PK := Value → Own → PH → Prop
def noC : Nat → Option Value := fun _ => none

/-- by it simp leaves alone what is still to come -/
structure Tok {α : Type} (_ : α) : Type where
/-- what is asked of a type's row -/
structure TI where
  size : Nat
  agg : Bool
  zero : List Value
  bytes : Nat


def isAggD : TypeDesc → Bool
  | .struct _ | .array _ _ => true
  | _ => false
def tI (P : Program) (t : TypeId) : Option TI :=
  match P.info? t, P.underlying t with
  | some i, some d => match i.zero with
    | some z => some ⟨i.size, isAggD d, z.cells.toList, i.bytes⟩
    | none => none
  | _, _ => none
inductive Sh where
  | sl (e sz bytes : Nat)
  | ar (n e sz : Nat)
  | no
def tSh (P : Program) (t : TypeId) : Sh :=
  match P.underlying t with
  | some (.slice e) => match P.info? e with
    | some i => .sl e i.size i.bytes
    | none => .no
  | some (.array n e) => match P.info? e with
    | some i => .ar n e i.size
    | none => .no
  | _ => .no
/-- a field's place in its struct; its type's cells are more than none -/
def fOff (P : Program) (s f : Nat) : Option Nat :=
  match P.underlying s with
  | some (.struct fs) => match fs[f]? with
    | some fd => match P.info? fd.type with
      | some i => if i.size = 0 then none else some fd.offset
      | none => none
    | none => none
  | _ => none

def xIf (b : Bool) (A B : Prop) (_ : Tok A := ⟨⟩) (_ : Tok B := ⟨⟩) : Prop := (b = true → A) ∧ (b = false → B)
/-- a value on its way into a slot: simp makes it small first -/
def xPut {α : Type} (v : α) (K : α → Prop) (_ : Tok K := ⟨⟩) : Prop := K v
def xLook (E : Env) (i : Nat) (K : Value → Prop) (_ : Tok K := ⟨⟩) : Prop := ∃ v, E.lookup i = some v ∧ K v
def xVal (E : Env) (x : Operand) (K : Value → Prop) (_ : Tok K := ⟨⟩) : Prop :=
  match x with
  | .tmp i => xLook E i K
  | .const v => K v
  | .global g => K (.pointer (some ⟨g, 0, none⟩))
  | .func f => K (.func (.func f) #[] #[])
def xVals (E : Env) : List Operand → (List Value → Prop) → Prop
  | [], K => K []
  | x :: xs, K => xVal E x fun v => xVals E xs fun vs => K (v :: vs)
def xBool (v : Value) (K : Bool → Prop) (_ : Tok K := ⟨⟩) : Prop := ∃ b, v = .bool b ∧ K b
def xRun (P : Program) (m : Sem Value) (K : Value → Prop) (_ : Tok K := ⟨⟩) : Prop := ∃ v, (∀ W, m.run P W = .ok v W) ∧ K v
def xTI (P : Program) (t : TypeId) (K : TI → Prop) (_ : Tok K := ⟨⟩) : Prop := ∃ ti, tI P t = some ti ∧ K ti
def xFO (P : Program) (s f : Nat) (K : Nat → Prop) (_ : Tok K := ⟨⟩) : Prop := ∃ o, fOff P s f = some o ∧ K o
def xBin (P : Program) (op : BinOp) (T : TypeId) (x y : Operand) (a b : Value) (K : Value → Prop) (_ : Tok K := ⟨⟩) : Prop := xRun P (do eqGuard op T x y a b; binOp op T a b) K
def xUn (P : Program) (op : UnOp) (a : Value) (K : Value → Prop) (_ : Tok K := ⟨⟩) : Prop := xRun P (Op.unary op a) K
def xConv (P : Program) (s d : TypeId) (a : Value) (K : Value → Prop) (_ : Tok K := ⟨⟩) : Prop := xRun P (convert s d a) K
def xExt (P : Program) (a : Value) (i : Nat) (K : Value → Prop) (_ : Tok K := ⟨⟩) : Prop := xRun P (Instr.extract a i) K
def xFld (P : Program) (s : TypeId) (a : Value) (f : Nat) (K : Value → Prop) (_ : Tok K := ⟨⟩) : Prop := xRun P (Instr.field s a f) K
def xAddO (a : Value) (o : Nat) (K : Value → Prop) (_ : Tok K := ⟨⟩) : Prop := ∃ p, a = .pointer (some p) ∧ K (.pointer (some (p.add o)))
def xFA (P : Program) (s : TypeId) (a : Value) (f : Nat) (K : Value → Prop) (_ : Tok K := ⟨⟩) : Prop := xFO P s f fun o => xAddO a o K
def xIA (s : Sh) (a i : Value) (K : Value → Prop) (_ : Tok K := ⟨⟩) : Prop :=
  match s with
  | .sl _ sz _ => ∃ q n c k j, a = .slice (some q) n c ∧ i = .int k j ∧ 0 ≤ j ∧ j < (n : Int) ∧ K (.pointer (some (q.add (j.toNat * sz))))
  | .ar n _ sz => ∃ q k j, a = .pointer (some q) ∧ i = .int k j ∧ 0 ≤ j ∧ j < (n : Int) ∧ K (.pointer (some (q.add (j.toNat * sz))))
  | .no => False
def xIx (P : Program) (t : TypeId) (a i : Value) (K : Value → Prop) (_ : Tok K := ⟨⟩) : Prop := xRun P (Instr.index t a i) K
def xSl (P : Program) (t : TypeId) (a : Value) (l h m : Option Value) (K : Value → Prop) (_ : Tok K := ⟨⟩) : Prop := xRun P (Instr.sliceAt t a l h m) K
def xMI (P : Program) (t : TypeId) (a : Value) (K : Value → Prop) (_ : Tok K := ⟨⟩) : Prop := xRun P (Instr.makeInterface t a) K
def xNC (a : Value) (K : Value → Prop) (_ : Tok K := ⟨⟩) : Prop := ∃ p, a = .pointer (some p) ∧ K a
def xLen (P : Program) (t : TypeId) (ats : Array TypeId) (a : Value) (K : Value → Prop) (_ : Tok K := ⟨⟩) : Prop := xRun P (Builtin.len_ ats t #[a]) K
def xMM (P : Program) (mx : Bool) (ats : Array TypeId) (t : TypeId) (as : List Value) (K : Value → Prop) (_ : Tok K := ⟨⟩) : Prop := xRun P (if mx then Builtin.max_ ats t as.toArray else Builtin.min_ ats t as.toArray) K

/-! memory -/
def elem (a : Option Addr) (j : Nat) : Option Addr := a.map (·.add j)
def findOwn : Own → Nat → Nat → Option Value
  | [], _, _ => none
  | e :: L, b, o => if e.b = b then e.cs[o]? else findOwn L b o
def cellAt (L : Own) (h : PH) (p : Option Addr) (j : Nat) : Option Value :=
  match p with
  | none => none
  | some q => if (q.add j).spot = none then (match h (q.add j).block (q.add j).off with | some v => some v | none => findOwn L (q.add j).block (q.add j).off) else none
def elemCell (h : PH) (a : Option Addr) (j : Nat) : Option Value :=
  match a with
  | none => none
  | some q => if (q.add j).spot = none then h (q.add j).block (q.add j).off else none
def xPtr (v : Value) (K : Option Addr → Prop) (_ : Tok K := ⟨⟩) : Prop := ∃ p, v = .pointer (some p) ∧ K (some p)
def xSome (x : Option Value) (K : Value → Prop) (_ : Tok K := ⟨⟩) : Prop := ∃ v, x = some v ∧ K v
def xCell (L : Own) (h : PH) (p : Option Addr) (j : Nat) (K : Value → Prop) (_ : Tok K := ⟨⟩) : Prop := xSome (cellAt L h p j) K ⟨⟩
def xFind (L : Own) (b o : Nat) (K : Value → Prop) (_ : Tok K := ⟨⟩) : Prop := ∃ v, findOwn L b o = some v ∧ K v
def xNth (cs : List Value) (o : Nat) (K : Value → Prop) (_ : Tok K := ⟨⟩) : Prop := ∃ v, cs[o]? = some v ∧ K v
def xCells (L : Own) (h : PH) (p : Option Addr) : Nat → Nat → (List Value → Prop) → Prop
  | _, 0, K => K []
  | j, n + 1, K => xCell L h p j fun v => xCells L h p (j + 1) n fun vs => K (v :: vs)
def xLd (ti : TI) (L : Own) (h : PH) (p : Option Addr) (K : Value → Prop) (_ : Tok K := ⟨⟩) : Prop :=
  match ti.agg with
  | true => xCells L h p 0 ti.size fun cs => K (.agg cs.toArray)
  | false => xCell L h p 0 K
def wr (cs : List Value) (o : Nat) : List Value → List Value
  | [] => cs
  | v :: vs => wr (cs.set o v) (o + 1) vs
/-- a struct's zero cells, and each field's place and number of cells -/
def bPl (P : Program) (t : TypeId) : Option (List Value × List (Nat × Nat)) :=
  match P.underlying t, tI P t with
  | some (.struct fs), some ti => (fs.toList.mapM fun f => (P.info? f.type).map fun i => (f.offset, i.size)).map fun pl => (ti.zero, pl)
  | _, _ => none
def xFill (z : List Value) (pl : List (Nat × Nat)) : List (Nat × Value) → (List Value → Prop) → Prop
  | [], K => K z
  | (i, v) :: ps, K => match pl[i]? with
    | some (off, size) => v.cells.size = size ∧ off + size ≤ z.length ∧ xPut (wr z off v.cells.toList) fun z' => xFill z' pl ps K
    | none => False
def xBuild (P : Program) (t : TypeId) (ps : Array (Nat × Value)) (K : Value → Prop) (_ : Tok K := ⟨⟩) : Prop :=
  ∃ z pl, bPl P t = some (z, pl) ∧ xFill z pl ps.toList fun z' => K (.agg z'.toArray)
def xSet (L : Own) (b o : Nat) (vs : List Value) (K : Own → Prop) (_ : Tok K := ⟨⟩) : Prop :=
  match L with
  | [] => False
  | e :: L => (e.b = b → o + vs.length ≤ e.cs.length ∧ vs.all Value.oneCell' = true ∧ K (⟨e.b, e.t, wr e.cs o vs, e.cap⟩ :: L)) ∧ (e.b ≠ b → xSet L b o vs fun L' => K (e :: L'))
def xSt (ti : TI) (L : Own) (p : Option Addr) (v : Value) (K : Own → Prop) (_ : Tok K := ⟨⟩) : Prop :=
  ∃ b o, p = some ⟨b, o, none⟩ ∧ v.cells.size = ti.size ∧ xSet L b o v.cells.toList K
def Apart (b : Nat) : Own → Prop
  | [] => True
  | e :: L => e.b ≠ b ∧ Apart b L
/-- a new block of the call's own -/
def xNew (L : Own) (h : PH) (T : TypeId) (cs : List Value) (K : Nat → Own → Prop) (_ : Tok K := ⟨⟩) : Prop := ∀ b, Apart b L → h b = noC → K b (⟨b, T, cs, cs.length⟩ :: L)
/-- of a literal of so many elements: the elements' type, the zero cells, each element's place -/
def bSl (P : Program) (t n : Nat) : Option (TypeId × List Value × List (Nat × Nat)) :=
  match P.underlying t with
  | some (.slice e) => match tI P e with
    | some ti => if n * ti.size > 2 ^ 24 ∨ ti.size = 0 then none else some (e, (List.range (n * ti.size)).map (fun j => ti.zero.toArray[j % ti.zero.toArray.size]!), (List.range n).map fun i => (i * ti.size, ti.size))
    | none => none
  | _ => none
def xBS (P : Program) (t len : Nat) (ps : Array (Nat × Value)) (K : TypeId → List Value → Prop) (_ : Tok K := ⟨⟩) : Prop :=
  ∃ e z pl, bSl P t len = some (e, z, pl) ∧ xFill z pl ps.toList fun cs => K e cs
def xMS (P : Program) (t : Nat) (l c : Value) (K : TypeId → List Value → Nat → Nat → Prop) (_ : Tok K := ⟨⟩) : Prop :=
  ∃ T cs n m, (∀ W : World, (Instr.makeSlice t l c).run P W = .ok (.slice (some ⟨W.heap.size, 0, none⟩) n m) (W.alloc (.cells cs T))) ∧ K T cs.toList n m

/-! calls -/
structure Good (L : Own) (h : PH) (W : World) : Prop where
  sub : ∀ b o v, h b o = some v → W.cell? ⟨b, o, none⟩ = some v
  own : ∀ e ∈ L, ∃ full, W.heap[e.b]? = some (.cells full e.t (0, 0)) ∧ full.size = e.cap ∧ ∀ (i : Nat) v, e.cs[i]? = some v → full[i]? = some v
  nodup : (L.map Blk.b).Nodup
  apart : ∀ e ∈ L, h e.b = noC
structure Kept (M : List Nat) (W W' : World) : Prop where
  os : W'.os = W.os
  tape : W'.tape = W.tape
  output : W'.output = W.output
  size : W.heap.size ≤ W'.heap.size
  block : ∀ k, k < W.heap.size → k ∉ M → W'.heap[k]? = W.heap[k]?
def Step (L : Own) (W : World) (L' : Own) (h' : PH) (W' : World) : Prop :=
  Good L' h' W' ∧ Kept (L.map Blk.b) W W' ∧ ∀ e ∈ L', e.b ∈ L.map Blk.b ∨ W.heap.size ≤ e.b
def Callable (P : Program) (f : FuncId) : Prop := ∃ fn, P.funcs[f]? = some fn ∧ (fn.name == "runtime.NumGoroutine") = false ∧ fn.body.isNone = false
def Spec (P : Program) (f : FuncId) (args : List Value) (L : Own) (h : PH) (K : PK) : Prop :=
  Callable P f ∧ ∀ W, Good L h W → Calls P f args.toArray W fun e W' => ∃ r L' h', e = .returned r ∧ K r L' h' ∧ Step L W L' h' W'
def xCall (P : Program) (f : FuncId) (args : List Value) (L : Own) (h : PH) (K : PK) (_ : Tok K := ⟨⟩) : Prop := Spec P f args L h K
/-- an operation that may do anything to the call's own: append, copy -/
def xAct (P : Program) (m : Sem Value) (L : Own) (h : PH) (K : PK) (_ : Tok K := ⟨⟩) : Prop :=
  ∀ W, Good L h W → ∃ r L' h' W', m.run P W = .ok r W' ∧ K r L' h' ∧ Step L W L' h' W'
def xCallV (P : Program) (fv : Value) (vs : List Value) (L : Own) (h : PH) (K : PK) (_ : Tok K := ⟨⟩) : Prop :=
  ∃ f first cap, fv = .func (.func f) first cap ∧ xCall P f (first.toList ++ vs ++ cap.toList) L h K ⟨⟩
def xBuiltin (P : Program) (b : Builtin) (ats : Array TypeId) (ty : TypeId) (vs : List Value) (L : Own) (h : PH) (K : PK) (_ : Tok K := ⟨⟩) : Prop :=
  match b with
  | .len => ∃ v, vs = [v] ∧ xLen P ty ats v fun r => xPut r (fun r => K r L h) ⟨⟩
  | .max => xMM P true ats ty vs fun r => xPut r (fun r => K r L h) ⟨⟩
  | .min => xMM P false ats ty vs fun r => xPut r (fun r => K r L h) ⟨⟩
  | .append => xAct P (Builtin.append_ ats ty vs.toArray) L h K ⟨⟩
  | .copy => xAct P (Builtin.copy_ ats ty vs.toArray) L h K ⟨⟩
  | _ => False
def vparts (E : Env) : List (Nat × Operand) → (List (Nat × Value) → Prop) → Prop
  | [], K => K []
  | (i, x) :: xs, K => xVal E x fun v => vparts E xs fun vs => K ((i, v) :: vs)
def xOptV (E : Env) : Option Operand → (Option Value → Prop) → Prop
  | none, K => K none
  | some x, K => xVal E x fun v => K (some v)

def xOp (P : Program) (o : Op) (ty : TypeId) (E : Env) (L : Own) (h : PH) (K : PK) (_ : Tok K := ⟨⟩) : Prop :=
  match o with
  | .move x | .assign x => xVal E x fun v => K v L h
  | .pick c a b => xVal E c fun v => xBool v fun t => xIf t (xVal E a fun v => K v L h) (xVal E b fun v => K v L h) ⟨⟩ ⟨⟩
  | .binOp op T x y _ => xVal E x fun a => xVal E y fun b => xBin P op T x y a b fun v => xPut v (fun v => K v L h) ⟨⟩
  | .unOp op _ x => xVal E x fun a => xUn P op a fun v => xPut v (fun v => K v L h) ⟨⟩
  | .convert s d x => xVal E x fun a => xConv P s d a fun v => xPut v (fun v => K v L h) ⟨⟩
  | .extract x i => xVal E x fun a => xExt P a i fun v => K v L h
  | .field s x f => xVal E x fun a => xFld P s a f fun v => xPut v (fun v => K v L h) ⟨⟩
  | .fieldAddr s x f => xVal E x fun a => xFA P s a f fun v => xPut v (fun v => K v L h) ⟨⟩
  | .indexAddr t x i => xVal E x fun a => xVal E i fun b => xIA (tSh P t) a b (fun v => xPut v (fun v => K v L h) ⟨⟩) ⟨⟩
  | .index t x i => xVal E x fun a => xVal E i fun b => xIx P t a b fun v => xPut v (fun v => K v L h) ⟨⟩
  | .slice t x lo hi mx => xVal E x fun a => xOptV E lo fun l => xOptV E hi fun u => xOptV E mx fun m => xSl P t a l u m fun v => xPut v (fun v => K v L h) ⟨⟩
  | .nilCheck x => xVal E x fun a => xNC a fun v => K v L h
  | .build t ps => vparts E ps.toList fun vs => xBuild P t vs.toArray fun v => xPut v (fun v => K v L h) ⟨⟩
  | .makeInterface t x => xVal E x fun a => xMI P t a fun v => K v L h
  | .makeFunc fn first cap => xVals E first.toList fun f => xVals E cap.toList fun c => K (.func fn f.toArray c.toArray) L h
  | .load t x => xVal E x fun v => xPtr v fun p => xTI P t fun ti => xLd ti L h p fun v => K v L h
  | .store t x y => xVal E x fun v => xVal E y fun u => xPtr v fun p => xTI P t fun ti => xSt ti L p u fun L' => K undef L' h
  | .alloc t => xTI P t fun ti => xNew L h t ti.zero (fun b L' => K (.pointer (some ⟨b, 0, none⟩)) L' h) ⟨⟩
  | .box t x => xVal E x fun v => xNew L h t v.cells.toList (fun b L' => K (.pointer (some ⟨b, 0, none⟩)) L' h) ⟨⟩
  | .buildSlice t n ps => vparts E ps.toList fun vs => xBS P t n vs.toArray fun T cs => xNew L h T cs (fun b L' => K (.slice (some ⟨b, 0, none⟩) n n) L' h) ⟨⟩
  | .makeSlice t l c => xVal E l fun l => xVal E c fun c => xMS P t l c fun T cs n m => xNew L h T cs (fun b L' => K (.slice (some ⟨b, 0, none⟩) n m) L' h) ⟨⟩
  | .call c => match c.callee with
    | .value f => xVal E f fun fv => xVals E c.args.toList fun vs => xCallV P fv vs L h K
    | .builtin b => xVals E c.args.toList fun vs => xBuiltin P b c.argTypes ty vs L h K
    | .invoke _ _ => False
  | _ => False

def dstOf : List Oper → Nat → Option Tmp
  | [], _ => none
  | o :: _, 0 => o.dst
  | _ :: os, n + 1 => dstOf os n
def cons (d : Option Tmp) (v : Value) (E : Env) : Env :=
  match d with
  | some d => (d, v) :: E
  | none => E
def xGd (v : Value) (want : Bool) (K : Bool → Prop) (_ : Tok K := ⟨⟩) : Prop := (∃ b, v = .bool b ∧ K (b == want)) ∨ (v = undef ∧ K false)
/-- whether a guarded operation is done -/
def xG (E : Env) (d : Option Tmp) (want : Bool) (K : Bool → Prop) (_ : Tok K := ⟨⟩) : Prop := ∃ t, d = some t ∧ xLook E t fun v => xGd v want K
def xOps (P : Program) (ops : List Oper) (Q : Env → Own → PH → Prop) : List Oper → Env → Own → PH → Prop
  | [], E, L, h => Q E L h
  | o :: rest, E, L, h =>
    match o.guard with
    | none => xOp P o.op o.type E L h fun v L h => xOps P ops Q rest (cons o.dst v E) L h
    | some (j, want) => xG E (dstOf ops j) want (fun t => xIf t (xOp P o.op o.type E L h fun v L h => xOps P ops Q rest (cons o.dst v E) L h) (xOps P ops Q rest (cons o.dst undef E) L h) ⟨⟩ ⟨⟩) ⟨⟩

abbrev Post := Exit → Env → Own → PH → Prop
def thn (k : Env → Own → PH → Prop) (Q : Post) : Post := fun e E L h =>
  match e with
  | .normal => k E L h
  | e => Q e E L h
def inB (id : Nat) (Q : Post) : Post := fun e E L h =>
  match e with
  | .exit i => if i = id then Q .normal E L h else Q (.exit i) E L h
  | e => Q e E L h
def quietOp : Op → Bool
  | .move _ | .assign _ | .pick .. | .binOp .. | .unOp .. | .convert .. | .extract .. | .field .. | .fieldAddr .. | .indexAddr .. | .index .. | .slice .. | .nilCheck _ | .build .. | .makeFunc .. | .load .. => true
  | .call c => match c.callee with
    | .value _ => true
    | .builtin .len => true
    | _ => false
  | _ => false
/-- an operation of a region whose order is drawn: the call's own and what is known stay as they were -/
def xDCall (P : Program) (f : FuncId) (args : List Value) (L : Own) (h : PH) (K : Value → Prop) (_ : Tok K := ⟨⟩) : Prop :=
  ∃ v, Spec P f args L h (fun v' L' h' => v' = v ∧ L' = L ∧ h' = h) ∧ K v
def xDCallV (P : Program) (fv : Value) (vs : List Value) (L : Own) (h : PH) (K : Value → Prop) (_ : Tok K := ⟨⟩) : Prop :=
  ∃ f first cap, fv = .func (.func f) first cap ∧ xDCall P f (first.toList ++ vs ++ cap.toList) L h K
def xOpD (P : Program) (o : Op) (ty : TypeId) (E : Env) (L : Own) (h : PH) (K : Value → Prop) (_ : Tok K := ⟨⟩) : Prop :=
  match o with
  | .call c => match c.callee with
    | .value f => xVal E f fun fv => xVals E c.args.toList fun vs => xDCallV P fv vs L h K
    | .builtin b => xVals E c.args.toList fun vs => xBuiltin P b c.argTypes ty vs L h fun v _ _ => K v
    | .invoke _ _ => False
  | o => xOp P o ty E L h fun v _ _ => K v
def xDraw (P : Program) (ops : List Oper) (Q : Env → Prop) (L : Own) (h : PH) : List Oper → Env → Prop
  | [], E => Q E
  | o :: rest, E =>
    match o.guard with
    | none => xOpD P o.op o.type E L h fun v => xDraw P ops Q L h rest (cons o.dst v E)
    | some (j, want) => xG E (dstOf ops j) want (fun t => xIf t (xOpD P o.op o.type E L h fun v => xDraw P ops Q L h rest (cons o.dst v E)) (xDraw P ops Q L h rest (cons o.dst undef E)) ⟨⟩ ⟨⟩) ⟨⟩
/-- an operation that looks at no memory -/
def pureOp : Op → Bool
  | .move _ | .assign _ | .pick .. | .binOp .. | .unOp .. | .convert .. | .extract .. | .field .. | .fieldAddr .. | .indexAddr .. | .index .. | .slice .. | .nilCheck _ | .build .. | .makeFunc .. => true
  | .call c => match c.callee with
    | .builtin .len => true
    | _ => false
  | _ => false
def loadOp : Op → Bool
  | .load .. => true
  | _ => false
def storeOp : Op → Bool
  | .store .. => true
  | _ => false
/-- number i is no store -/
def keepAt (ops : Array Oper) (i : Nat) : Bool := match ops[i]? with
  | some o => !storeOp o.op
  | none => true
/-- all stores that have not come up wait for number i -/
def waitFor (ops : Array Oper) (l : Array Bool) (i : Nat) : Bool := (List.range ops.size).all fun j => j == i || (l.getD j true || match ops[j]? with
  | some o => !storeOp o.op || o.after.any (fun e => Region.binds .any e && e.on == i)
  | none => true)
/-- a plan of a region whose order is drawn: 'tk': this one first; 'tkl': this load first; 'or': this one may come up (k: it is no store), then t; or another of r; 'fin': all have come up; 'nil': none other may come up -/
inductive Pl where
  | fin
  | nil
  | tk (i : Nat) (t : Pl)
  | tkl (i : Nat) (t : Pl)
  | or (k : Bool) (i : Nat) (t r : Pl)
def Pl.heads : Pl → List Nat
  | .or _ i _ r => i :: r.heads
  | _ => []
def Pl.ok (ops : Array Oper) : Pl → Bool → Nat → Array Bool → Bool
  | .fin, top, _, l => top && (Region.ready .any ops l).isEmpty
  | .nil, top, _, _ => !top
  | .tk i t, top, n, l => top && (Region.free .any ops l i && (Region.ready .any ops l).contains i && ((ops[i]?).map fun o => pureOp o.op).getD false && (match n with
    | 0 => false
    | m + 1 => t.ok ops true m (l.setIfInBounds i true)))
  | .tkl i t, top, n, l => top && (Region.free .any ops l i && (Region.ready .any ops l).contains i && ((ops[i]?).map fun o => loadOp o.op).getD false && waitFor ops l i && (match n with
    | 0 => false
    | m + 1 => t.ok ops true m (l.setIfInBounds i true)))
  | .or k i t r, top, n, l => (!top || decide (Region.ready .any ops l = i :: r.heads)) && (k == keepAt ops i) && (match n with
    | 0 => false
    | m + 1 => t.ok ops true m (l.setIfInBounds i true)) && r.ok ops false n l
/-- operation i of the region -/
def xAt (P : Program) (ops : List Oper) (L : Own) (h : PH) (E : Env) (K : Env → Own → PH → Prop) : List Oper → Nat → Prop
  | [], _ => False
  | _ :: os, n + 1 => xAt P ops L h E K os n
  | o :: _, 0 => match o.guard with
    | none => xOp P o.op o.type E L h fun v L h => K (cons o.dst v E) L h
    | some (j, want) => xG E (dstOf ops j) want (fun t => xIf t (xOp P o.op o.type E L h fun v L h => K (cons o.dst v E) L h) (K (cons o.dst undef E) L h) ⟨⟩ ⟨⟩) ⟨⟩
/-- what loads that are taken first read stays -/
def Kp (s : Option (Own × PH)) (L : Own) (h : PH) : Prop :=
  match s with
  | none => True
  | some (L0, h0) => ∀ W, Good L h W → Good L0 h0 W
def kS (k : Bool) (s : Option (Own × PH)) : Option (Own × PH) :=
  match k with
  | true => s
  | false => none
def xKp (s : Option (Own × PH)) (L : Own) (h : PH) (A : Prop) (_ : Tok A := ⟨⟩) : Prop := Kp s L h ∧ A
def xPl (P : Program) (ops : List Oper) (Q : Env → Own → PH → Prop) (s : Option (Own × PH)) : Pl → Env → Own → PH → Prop
  | .fin, E, L, h => Q E L h
  | .nil, _, _, _ => True
  | .tk i t, E, L, h => xAt P ops L h E (xPl P ops Q s t) ops i
  | .tkl i t, E, L, h => ∃ L0 h0, s = some (L0, h0) ∧ xAt P ops L0 h0 E (fun E' _ _ => xPl P ops Q s t E' L h) ops i
  | .or k i t r, E, L, h => xAt P ops L h E (fun E' L' h' => xKp (kS k s) L' h' (xPl P ops Q (kS k s) t E' L' h') ⟨⟩) ops i ∧ xPl P ops Q s r E L h
/-- what is known of the slots is known there too -/
def Ent (E : Env) : Env → Prop
  | [] => True
  | (i, v) :: F => E.lookup i = some v ∧ Ent E F
def Drop (L : Own) (h : PH) (L' : Own) (h' : PH) : Prop := ∀ W, Good L h W → Good L' h' W ∧ ∀ e ∈ L', e.b ∈ L.map Blk.b
def xC (P : Program) : Code → Post → Env → Own → PH → Prop
  | .skip, Q, E, L, h => Q .normal E L h
  | .label _, Q, E, L, h => Q .normal E L h
  | .seq a b, Q, E, L, h => xC P a (thn (xC P b Q) Q) E L h
  | .cond c A B, Q, E, L, h => xVal E c fun v => xBool v fun t => xIf t (xC P A Q E L h) (xC P B Q E L h) ⟨⟩ ⟨⟩
  | .block id c, Q, E, L, h => xC P c (inB id Q) E L h
  | .loop c, Q, E, L, h => ∃ I : Nat → Env → Own → PH → Prop, (∃ n, I n E L h) ∧
      ∀ n E L h, I n E L h → ∃ E' L' h', Ent E E' ∧ Drop L h L' h' ∧ xC P c (thn (fun E' L' h' => ∃ m, m < n ∧ I m E' L' h') Q) E' L' h'
  | .exit id, Q, E, L, h => Q (.exit id) E L h
  | .ret, Q, E, L, h => Q .ret E L h
  | .region _ ops false, Q, E, L, h => xOps P ops.toList (Q .normal) ops.toList E L h
  | .region _ ops true, Q, E, L, h => (Region.lexB .any ops = true ∧ (ops.toList.all fun o => quietOp o.op) = true ∧ xDraw P ops.toList (fun E => Q .normal E L h) L h ops.toList E) ∨
    (Region.noSelect ops = true ∧ ∃ T : Pl, T.ok ops true ops.size (Array.replicate ops.size false) = true ∧ ∃ I : Env → Own → PH → Prop, (∀ E L h, I E L h → ∃ E' L' h', (E' = E ∨ Ent E E') ∧ Drop L h L' h' ∧ Q .normal E' L' h') ∧ ∃ s E0 L0 h0, (E0 = E ∨ Ent E E0) ∧ Drop L h L0 h0 ∧ Kp s L0 h0 ∧ xPl P ops.toList I s T E0 L0 h0)
  | _, _, _, _, _ => False
/-- what a function hands back -/
def xRes (P : Program) (L : Own) (h : PH) (E : Env) : List ResultVar → (List Value → Prop) → Prop
  | [], K => K []
  | .tmp t :: rs, K => xLook E t fun v => xRes P L h E rs fun vs => K (v :: vs)
  | .cell a t :: rs, K => xLook E a fun v => xPtr v fun p => xTI P t fun ti => xLd ti L h p fun v => xRes P L h E rs fun vs => K (v :: vs)
def xOne : List Value → Value
  | [v] => v
  | vs => .tuple vs.toArray
def fin (K : PK) (v : Value) (L : Own) (h : PH) : Prop := ∃ L' h', Drop L h L' h' ∧ K v L' h'
def retQ (P : Program) (rs : List ResultVar) (K : PK) : Post := fun e E L h =>
  match e with
  | .ret | .normal => xRes P L h E rs fun vs => fin K (xOne vs) L h
  | _ => False
def xEnv : List Value → Nat → Env
  | [], _ => []
  | v :: vs, n => (n, v) :: xEnv vs (n + 1)
end Go.X

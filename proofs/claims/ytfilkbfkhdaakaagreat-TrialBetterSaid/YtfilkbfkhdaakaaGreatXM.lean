/- Maps of the call's own: how they are asked, how they are written. Conditions: keys are numbers. -/
import Derived.Test.YtfilkbfkhdaakaaGreatXA
set_option linter.unusedVariables false
set_option linter.unusedSimpArgs false
namespace Go.X
open Go.RowKit Go.Bl
variable {P : Program}
/-- entries of a map with numbers as keys, as the 'cells' of its block -/
def entI (k : IntKind) (es : List (Int × Value)) : List Value := es.map fun e => Value.tuple #[.int k e.1, e.2]
/-- what it has at a key -/
def getI : List (Int × Value) → Int → Option Value
  | [], _ => none
  | e :: es, n => if n = e.1 then some e.2 else getI es n
/-- a key's value is written -/
def putI : List (Int × Value) → Int → Value → List (Int × Value)
  | [], n, v => [(n, v)]
  | e :: es, n, v => if n = e.1 then (e.1, v) :: es else e :: putI es n v
/-- where the key stands -/
def idxI : List (Int × Value) → Int → Nat → Option (Nat × Value)
  | [], _, _ => none
  | e :: es, n, i => if n = e.1 then some (i, e.2) else idxI es n (i + 1)
theorem idxI_get : ∀ (es : List (Int × Value)) (n : Int) (i : Nat), (idxI es n i).map Prod.snd = getI es n
  | [], _, _ => rfl
  | e :: es, n, i => by
    simp only [idxI, getI]
    split
    · rfl
    · exact idxI_get es n (i + 1)
theorem findNow_int {k : IntKind} {T : TypeDesc} (hT : T = .int k) (n : Int) : ∀ (l : List MapEntry) (es : List (Int × Value)) (i : Nat), l.map (fun x => Value.tuple #[x.key, x.val]) = entI k es → Instr.findNow T (.int k n) l i = some (idxI es n i)
  | [], [], i, _ => rfl
  | [], _ :: _, i, h => by simp [entI] at h
  | _ :: _, [], i, h => by simp [entI] at h
  | x :: l, e :: es, i, h => by
    simp only [entI, List.map_cons, List.cons.injEq, Value.tuple.injEq] at h
    obtain ⟨h1, h2⟩ := h
    have hk : x.key = .int k e.1 := by have := congrArg (fun a : Array Value => a[0]?) h1; simpa using this
    have hv : x.val = e.2 := by have := congrArg (fun a : Array Value => a[1]?) h1; simpa using this
    subst hT
    simp only [Instr.findNow, Instr.sameNow, hk, idxI, hv, if_true]
    by_cases c : n = e.1
    · simp [c]
    · have : (n == e.1) = false := by simpa using c
      rw [this, if_neg c]
      exact findNow_int rfl n l es (i + 1) h2
theorem run_checkKey_int {kt : TypeId} {k : IntKind} (hk : P.underlying kt = some (.int k)) (em : Bool) (n : Int) (W : World) : (Instr.checkKey em 10000 kt (.int k n)).run P W = .ok () W := by
  rw [show (10000 : Nat) = 9999 + 1 by rfl, Instr.checkKey]
  simp [run_underlying hk]
theorem run_findKey_int {kt : TypeId} {k : IntKind} (hk : P.underlying kt = some (.int k)) (n : Int) (l : List MapEntry) (es : List (Int × Value)) (hl : l.map (fun x => Value.tuple #[x.key, x.val]) = entI k es) (W : World) :
    (Instr.findKey kt (.int k n) l).run P W = .ok (idxI es n 0) W := by
  simp [Instr.findKey, run_underlying hk, findNow_int rfl n l es 0 hl]
theorem run_getMap {W : World} {b : Nat} {es : Array MapEntry} {ck : Nat} (h : W.heap[b]? = some (.map es ck)) : (getObj b).run P W = .ok (.map es ck) W := by simp [getObj, Sem.run, h]
theorem run_setMap {W : World} {b : Nat} {es : Array MapEntry} {ck : Nat} (o : Obj) (h : W.heap[b]? = some (.map es ck)) : (setObj b o).run P W = .ok () { W with heap := W.heap.setIfInBounds b o } := by simp [setObj, Sem.run, h]
theorem own_map {L : Own} {h : PH} {W : World} (hg : Good L h W) {b : Nat} {cs : List Value} (hm : (⟨b, 4294967295, cs, 0⟩ : Blk) ∈ L) : ∃ es ck, W.heap[b]? = some (.map es ck) ∧ es.toList.map (fun x => Value.tuple #[x.key, x.val]) = cs := (hg.own _ hm).map rfl
/-- a map is asked at a key -/
theorem xlookup_i {T kt et : TypeId} {k : IntKind} {z : Value} (hT : P.underlying T = some (.map kt et)) (hk : P.underlying kt = some (.int k)) (hz3 : ∀ W, (zeroValue et : Sem Value).run P W = .ok z W)
    {L : Own} {h : PH} {K : Value → Prop} {b : Nat} {n : Int} {ok : Bool} (es : List (Int × Value)) (hm : (⟨b, 4294967295, entI k es, 0⟩ : Blk) ∈ L)
    (hK : K (if ok then .tuple #[(getI es n).getD z, .bool (getI es n).isSome] else (getI es n).getD z)) : xAsk P (Instr.lookup T (.map (some b)) (.int k n) ok) L h K := by
  refine ⟨_, fun W hg => ?_, hK⟩
  obtain ⟨ms, ck, h1, h2⟩ := own_map hg hm
  have hf := run_findKey_int (P := P) hk n ms.toList es h2 W
  have hc := run_checkKey_int (P := P) hk ms.isEmpty n W
  have hz' := hz3 W
  rw [← idxI_get es n 0]
  simp only [Instr.lookup, Sem.run_bind, run_underlying hT, Result.andThen_ok, run_getMap h1, hc, hf]
  cases hi : idxI es n 0 with
  | none => cases ok <;> simp [hz', hc, hf, hi]
  | some p => cases ok <;> simp [hc, hf, hi]
/-- how many keys a map has -/
theorem xmaplen {T kt et ty : TypeId} (hT : P.underlying T = some (.map kt et)) {L : Own} {h : PH} {K : Value → Prop} {b : Nat} (cs : List Value) (hm : (⟨b, 4294967295, cs, 0⟩ : Blk) ∈ L)
    (hK : K (.int .i64 cs.length)) : xAsk P (Builtin.len_ #[T] ty #[.map (some b)]) L h K := by
  refine ⟨_, fun W hg => ?_, hK⟩
  obtain ⟨ms, ck, h1, h2⟩ := own_map hg hm
  have hl : ms.size = cs.length := by rw [← h2]; simp
  simp [Builtin.len_, run_underlying hT, run_getMap h1, goInt, hl]
theorem idxI_some : ∀ (es : List (Int × Value)) (n : Int) (j : Nat) (p : Nat × Value), idxI es n j = some p → ∃ i, p.1 = j + i ∧ es[i]? = some (n, p.2) ∧ ∀ v, putI es n v = es.set i (n, v)
  | [], _, _, _, h => by cases h
  | e :: es, n, j, p, h => by
    simp only [idxI] at h
    split at h
    · rename_i c
      injection h with h
      subst h
      exact ⟨0, rfl, by simp [c], fun v => by simp [putI, c]⟩
    · rename_i c
      obtain ⟨i, h1, h2, h3⟩ := idxI_some es n (j + 1) p h
      exact ⟨i + 1, by omega, by simpa using h2, fun v => by simp [putI, c, h3]⟩
theorem idxI_none : ∀ (es : List (Int × Value)) (n : Int) (j : Nat), idxI es n j = none → ∀ v, putI es n v = es ++ [(n, v)]
  | [], _, _, _, v => rfl
  | e :: es, n, j, h, v => by
    simp only [idxI] at h
    split at h
    · cases h
    · rename_i c
      simp [putI, c, idxI_none es n (j + 1) h v]
/-- what is so behind a map was written -/
theorem map_step {L1 L2 : Own} {h : PH} {W : World} {b : Nat} {cs cs' : List Value} {es es' : Array MapEntry} {ck ck' : Nat} (hg : Good (L1 ++ ⟨b, 4294967295, cs, 0⟩ :: L2) h W) (h1 : W.heap[b]? = some (.map es ck)) (h2 : es'.toList.map (fun x => Value.tuple #[x.key, x.val]) = cs') :
    Step (L1 ++ ⟨b, 4294967295, cs, 0⟩ :: L2) W (L1 ++ ⟨b, 4294967295, cs', 0⟩ :: L2) h { W with heap := W.heap.setIfInBounds b (.map es' ck') } := by
  have hb : b < W.heap.size := by
    rcases Nat.lt_or_ge b W.heap.size with h3 | h3
    · exact h3
    · rw [Array.getElem?_eq_none h3] at h1; cases h1
  have hnc : h b = noC := hg.apart ⟨b, 4294967295, cs, 0⟩ (by simp)
  have hnd := hg.nodup
  simp only [List.map_append, List.map_cons] at hnd
  have hnd2 := List.nodup_append.1 hnd
  have hnd3 := List.nodup_cons.1 hnd2.2.1
  have hne : ∀ e ∈ L1 ++ L2, e.b ≠ b := fun e he hbe => by
    rcases List.mem_append.1 he with he | he
    · exact hnd2.2.2 e.b (List.mem_map_of_mem he) b (by simp) hbe
    · exact hnd3.1 (by rw [← hbe]; exact List.mem_map_of_mem he)
  have oth : ∀ x, x ≠ b → (W.heap.setIfInBounds b (.map es' ck'))[x]? = W.heap[x]? := fun x hx => Array.getElem?_setIfInBounds_ne (Ne.symm hx)
  have hin : ∀ x : Blk, x ∈ L1 ++ L2 → x ∈ L1 ++ (⟨b, 4294967295, cs, 0⟩ : Blk) :: L2 := fun x hx => by
    rcases List.mem_append.1 hx with hx | hx
    · exact List.mem_append.2 (Or.inl hx)
    · exact List.mem_append.2 (Or.inr (List.mem_cons_of_mem _ hx))
  have hcase : ∀ x : Blk, x ∈ L1 ++ (⟨b, 4294967295, cs', 0⟩ : Blk) :: L2 → x = ⟨b, 4294967295, cs', 0⟩ ∨ x ∈ L1 ++ L2 := fun x hx => by
    rcases List.mem_append.1 hx with hx | hx
    · exact Or.inr (List.mem_append.2 (Or.inl hx))
    · rcases List.mem_cons.1 hx with hx | hx
      · exact Or.inl hx
      · exact Or.inr (List.mem_append.2 (Or.inr hx))
  refine ⟨⟨fun b' o v hv => ?_, fun e he => ?_, ?_, fun e he => ?_⟩, ⟨rfl, rfl, rfl, by simp, fun k hk hM => ?_⟩, fun e he => ?_⟩
  · have hbb : b' ≠ b := fun e => by rw [e, hnc] at hv; cases hv
    have := hg.sub b' o v hv
    simp only [World.cell?] at this ⊢
    rw [oth b' hbb]
    exact this
  · rcases hcase e he with rfl | he
    · refine .mkMap rfl ⟨es', ck', ?_, h2⟩
      simp [hb]
    · show BlkIs e (W.heap.setIfInBounds b (.map es' ck'))[e.b]?
      rw [oth _ (hne e he)]
      exact hg.own e (hin e he)
  · simp only [List.map_append, List.map_cons]
    exact hnd
  · rcases hcase e he with rfl | he
    · exact hnc
    · exact hg.apart e (hin e he)
  · exact oth k fun e => hM (by rw [e]; simp)
  · refine Or.inl ?_
    rcases hcase e he with rfl | he
    · simp
    · exact List.mem_map_of_mem (hin e he)
/-- a map is written -/
theorem xupdate_i {T kt et : TypeId} {k : IntKind} (hT : P.underlying T = some (.map kt et)) (hk : P.underlying kt = some (.int k)) {h : PH} {K : Own → PH → Prop} {b : Nat} {n : Int} {v : Value} (L1 L2 : Own) (es : List (Int × Value))
    (hK : K (L1 ++ ⟨b, 4294967295, entI k (putI es n v), 0⟩ :: L2) h) : xDo P (Instr.mapUpdate T (.map (some b)) (.int k n) v) (L1 ++ ⟨b, 4294967295, entI k es, 0⟩ :: L2) h K := by
  intro W hg
  obtain ⟨ms, ck, h1, h2⟩ := own_map hg (b := b) (cs := entI k es) (by simp)
  have hf := run_findKey_int (P := P) hk n ms.toList es h2 W
  have hc := run_checkKey_int (P := P) hk false n W
  have hstart : (Instr.mapUpdate T (.map (some b)) (.int k n) v).run P W = ((match idxI es n 0 with
      | some (i, _) => do
        let key ← Instr.keyThatStays (((ms[i]?).map (·.key)).getD (.int k n)) (.int k n)
        setObj b (.map (ms.modify i fun e => { e with key, val := v }) ck)
      | none => setObj b (.map (ms.push { key := .int k n, val := v, born := ck }) (ck + 1))) : Sem Unit).run P W := by
    simp only [Instr.mapUpdate, Sem.run_bind, run_underlying hT, Result.andThen_ok, run_getMap h1, hc, hf]
    rfl
  cases hi : idxI es n 0 with
  | none =>
    rw [hi] at hstart
    refine ⟨_, h, _, hstart.trans (run_setMap _ h1), hK, map_step hg h1 ?_⟩
    rw [idxI_none es n 0 hi v]
    simp [entI, h2]
  | some p =>
    obtain ⟨i, v0⟩ := p
    rw [hi] at hstart
    obtain ⟨i', e1, e2, e3⟩ := idxI_some es n 0 (i, v0) hi
    simp only [Nat.zero_add] at e1 e2
    subst e1
    have hm : ms.toList[i]?.map (fun x => Value.tuple #[x.key, x.val]) = some (.tuple #[.int k n, v0]) := by
      rw [← List.getElem?_map, h2, entI, List.getElem?_map, e2]; rfl
    obtain ⟨x, hx, hxe⟩ := Option.map_eq_some_iff.1 hm
    have hkey : x.key = .int k n := by
      injection hxe with hxe
      have := congrArg (fun a : Array Value => a[0]?) hxe
      simpa using this
    have hx' : ms[i]? = some x := by simpa using hx
    have hst : (Instr.keyThatStays (((ms[i]?).map (·.key)).getD (.int k n)) (.int k n)).run P W = .ok (.int k n) W := by
      rw [hx']
      simp [Instr.keyThatStays, hkey, Instr.sameBits]
    refine ⟨_, h, _, hstart.trans ?_, hK, map_step (es' := ms.modify i fun e => { e with key := .int k n, val := v }) (ck' := ck) hg h1 ?_⟩
    · simp only [Sem.run_bind, hst, Result.andThen_ok]
      exact run_setMap _ h1
    · rw [e3 v]
      apply List.ext_getElem?
      intro j
      rw [List.getElem?_map]
      simp only [entI, List.map_set, List.getElem?_set]
      have hj : (ms.toList[j]?).map (fun x => Value.tuple #[x.key, x.val]) = (es.map fun e => Value.tuple #[.int k e.1, e.2])[j]? := by
        rw [← List.getElem?_map, h2]; rfl
      by_cases c : i = j
      · subst c
        have hlt : i < es.length := (List.getElem?_eq_some_iff.1 e2).1
        simp [Array.getElem?_modify, hx', hlt]
      · simp only [Array.getElem?_toList, Array.getElem?_modify, c, if_false] at hj ⊢
        exact hj
theorem xCells_elem {L : Own} {h : PH} {a : Option Addr} {i : Nat} : ∀ (n j : Nat) (cs : List Value) (K : List Value → Prop), cs.length = n → (∀ m, m < n → elemCell h a (i + (j + m)) = cs[m]?) → xCells L h (elem a i) j n K = K cs
  | 0, j, cs, K, hl, _ => by
    have : cs = [] := List.eq_nil_of_length_eq_zero hl
    subst this
    rfl
  | n + 1, j, [], K, hl, _ => by simp at hl
  | n + 1, j, c :: cs, K, hl, hc => by
    have h0 := hc 0 (by omega)
    simp only [Nat.add_zero, List.getElem?_cons_zero] at h0
    rw [xCells_succ, xCell_elem h0]
    rw [xCells_elem n (j + 1) cs (fun vs => K (c :: vs)) (by simpa using hl) fun m hm => by
      have := hc (m + 1) (by omega)
      rw [show i + (j + 1 + m) = i + (j + (m + 1)) by omega, this]
      simp]
end Go.X

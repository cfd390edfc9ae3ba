/- Maps of the call's own whose keys are structs of numbers. Conditions: as each lemma says. -/
import Derived.Test.YtfilkbfkhdaakaaGreatXM
set_option linter.unusedVariables false
set_option linter.unusedSimpArgs false
namespace Go.X
open Go.RowKit Go.Bl
variable {P : Program}
/-- a struct of numbers as a key -/
def kV (ks : List IntKind) (n : List Int) : Value := .agg (List.zipWith Value.int ks n).toArray
def entK (ks : List IntKind) (es : List (List Int × Value)) : List Value := es.map fun e => Value.tuple #[kV ks e.1, e.2]
def getK : List (List Int × Value) → List Int → Option Value
  | [], _ => none
  | e :: es, n => if n = e.1 then some e.2 else getK es n
def idxK : List (List Int × Value) → List Int → Nat → Option (Nat × Value)
  | [], _, _ => none
  | e :: es, n, i => if n = e.1 then some (i, e.2) else idxK es n (i + 1)
theorem idxK_get : ∀ (es : List (List Int × Value)) (n : List Int) (i : Nat), (idxK es n i).map Prod.snd = getK es n
  | [], _, _ => rfl
  | e :: es, n, i => by
    simp only [idxK, getK]
    split
    · rfl
    · exact idxK_get es n (i + 1)
theorem run_forIn_yield {α : Type} {W : World} {body : α → PUnit → Sem (ForInStep PUnit)} : ∀ (l : List α), (∀ f ∈ l, ∀ u, (body f u).run P W = .ok (.yield ⟨⟩) W) → (forIn l PUnit.unit body).run P W = .ok ⟨⟩ W
  | [], _ => rfl
  | f :: l, hl => by
    rw [List.forIn_cons, Sem.run_bind, hl f (by simp) _]
    exact run_forIn_yield l fun g hg => hl g (by simp [hg])
theorem okF_mem : ∀ (fs : List Field) (i : Nat) (ks : List IntKind) (as : List Int) (xs : Array Value), okF P fs i ks = true → as.length = ks.length → (∀ j : Nat, xs[i + j]? = (List.zipWith Value.int ks as)[j]?) →
    ∀ f ∈ fs, f.name ≠ "_" ∧ ∃ k a, P.underlying f.type = some (.int k) ∧ xs[f.offset]? = some (.int k a)
  | [], _, _, _, _, _, _, _, f, hf => by cases hf
  | _ :: _, _, [], _, _, h, _, _, _, _ => by simp [okF] at h
  | _ :: _, _, _ :: _, [], _, _, ha, _, _, _ => by simp at ha
  | g :: fs, i, k :: ks, a :: as, xs, h, ha, hx, f, hf => by
    simp only [okF, Bool.and_eq_true, decide_eq_true_eq, beq_iff_eq] at h
    obtain ⟨⟨⟨h1, h2⟩, h3⟩, h4⟩ := h
    rcases List.mem_cons.1 hf with rfl | hf
    · refine ⟨h1, ?_⟩
      cases hu : P.underlying f.type with
      | none => rw [hu] at h3; cases h3
      | some u =>
        rw [hu] at h3
        cases u <;> try (cases h3)
        rename_i k'
        have hk : k' = k := by simpa using h3
        subst hk
        have hx0 := hx 0
        simp only [Nat.add_zero, List.zipWith_cons_cons, List.getElem?_cons_zero] at hx0
        exact ⟨k', a, rfl, by rw [h2]; exact hx0⟩
    · exact okF_mem fs (i + 1) ks as xs h4 (by simpa using ha) (fun j => by have := hx (j + 1); rw [show i + 1 + j = i + (j + 1) by omega]; simpa using this) f hf
theorem run_checkKey_ints {T : Nat} {ks : List IntKind} (ht : P.underlying T = some (.struct (P.fieldsOf T))) (hok : okF P (P.fieldsOf T).toList 0 ks = true) (as : List Int) (ha : as.length = ks.length) (em : Bool) (W : World) :
    (Instr.checkKey em 10000 T (kV ks as)).run P W = .ok () W := by
  have hm := okF_mem (P := P) (P.fieldsOf T).toList 0 ks as (List.zipWith Value.int ks as).toArray hok ha (fun j => by simp)
  rw [show (10000 : Nat) = 9999 + 1 by rfl, Instr.checkKey, kV]
  simp only [Sem.run_bind, run_underlying ht, Result.andThen_ok, ← Array.forIn_toList]
  rw [run_forIn_yield]
  · rfl
  · intro f hf u
    obtain ⟨h1, k, a, h2, h3⟩ := hm f hf
    have hag : (isAgg f.type).run P W = .ok false W := run_isAgg h2 W
    have px : (part f.type (List.zipWith Value.int ks as).toArray f.offset).run P W = .ok (.int k a) W := by simp only [part, Sem.run_bind, hag, Result.andThen_ok]; simp [h3]
    have hc : (Instr.checkKey em 9999 f.type (.int k a)).run P W = .ok () W := by
      rw [show (9999 : Nat) = 9998 + 1 by rfl, Instr.checkKey]
      simp [run_underlying h2]
    simp only [ne_eq, h1, not_false_eq_true, if_true, Sem.run_bind, px, Result.andThen_ok, hc]
    rfl
/-- what a map's keys are of -/
structure KeyT (P : Program) (kt : TypeId) (ks : List IntKind) : Prop where
  u : P.underlying kt = some (.struct (P.fieldsOf kt))
  s : P.stoodInHeld kt = false
  ok : okF P (P.fieldsOf kt).toList 0 ks = true
theorem run_findAsking_k {kt : TypeId} {ks : List IntKind} (hk : KeyT P kt ks) (n : List Int) (hn : n.length = ks.length) (W : World) : ∀ (l : List MapEntry) (es : List (List Int × Value)) (i : Nat), (∀ e ∈ es, e.1.length = ks.length) →
    l.map (fun x => Value.tuple #[x.key, x.val]) = entK ks es → (Instr.findAsking kt (kV ks n) l i).run P W = .ok (idxK es n i) W
  | [], [], i, _, _ => by simp [Instr.findAsking, idxK]
  | [], _ :: _, i, _, h => by simp [entK] at h
  | _ :: _, [], i, _, h => by simp [entK] at h
  | x :: l, e :: es, i, hl, h => by
    simp only [entK, List.map_cons, List.cons.injEq, Value.tuple.injEq] at h
    obtain ⟨h1, h2⟩ := h
    have hkey : x.key = kV ks e.1 := by have := congrArg (fun a : Array Value => a[0]?) h1; simpa using this
    have hv : x.val = e.2 := by have := congrArg (fun a : Array Value => a[1]?) h1; simpa using this
    have he : (Op.equal kt (kV ks n) x.key).run P W = .ok (decide (n = e.1)) W := by
      rw [hkey]
      exact run_eq_ints hk.u hk.s hk.ok n e.1 hn (hl e (by simp)) W
    have ih := run_findAsking_k hk n hn W l es (i + 1) (fun y hy => hl y (by simp [hy])) h2
    by_cases c : n = e.1
    · rw [decide_eq_true c] at he
      simp only [Instr.findAsking, Sem.run_bind, he, Result.andThen_ok, if_true, Sem.run_pure, hv, idxK, if_pos c]
    · rw [decide_eq_false c] at he
      simp only [Instr.findAsking, Sem.run_bind, he, Result.andThen_ok, Bool.false_eq_true, if_false, idxK, if_neg c]
      exact ih
theorem run_findKey_k {kt : TypeId} {ks : List IntKind} (hk : KeyT P kt ks) (n : List Int) (hn : n.length = ks.length) (l : List MapEntry) (es : List (List Int × Value)) (he : ∀ e ∈ es, e.1.length = ks.length) (hl : l.map (fun x => Value.tuple #[x.key, x.val]) = entK ks es) (W : World) :
    (Instr.findKey kt (kV ks n) l).run P W = .ok (idxK es n 0) W := by
  have ha := run_findAsking_k hk n hn W l es 0 he hl
  cases l with
  | nil =>
    cases es with
    | nil => simp [Instr.findKey, run_underlying hk.u, Instr.findNow, idxK]
    | cons _ _ => simp [entK] at hl
  | cons x l => simp only [Instr.findKey, Sem.run_bind, run_underlying hk.u, Result.andThen_ok, Instr.findNow, Instr.sameNow, kV] at ha ⊢; exact ha
theorem xlookup_k {T kt et : TypeId} {ks : List IntKind} {z : Value} (hT : P.underlying T = some (.map kt et)) (hk : KeyT P kt ks) (hz3 : ∀ W, (zeroValue et : Sem Value).run P W = .ok z W)
    {L : Own} {h : PH} {K : Value → Prop} {b : Nat} {n : List Int} (hn : n.length = ks.length) {ok : Bool} (es : List (List Int × Value)) (he : ∀ e ∈ es, e.1.length = ks.length) (hm : (⟨b, 4294967295, entK ks es, 0⟩ : Blk) ∈ L)
    (hK : K (if ok then .tuple #[(getK es n).getD z, .bool (getK es n).isSome] else (getK es n).getD z)) : xAsk P (Instr.lookup T (.map (some b)) (kV ks n) ok) L h K := by
  refine ⟨_, fun W hg => ?_, hK⟩
  obtain ⟨ms, ck, h1, h2⟩ := own_map hg hm
  have hf := run_findKey_k (P := P) hk n hn ms.toList es he h2 W
  have hc := run_checkKey_ints (P := P) hk.u hk.ok n hn ms.isEmpty W
  have hz' := hz3 W
  rw [← idxK_get es n 0]
  simp only [Instr.lookup, Sem.run_bind, run_underlying hT, Result.andThen_ok, run_getMap h1, hc, hf]
  cases hi : idxK es n 0 with
  | none => cases ok <;> simp [hz', hc, hf, hi]
  | some p => cases ok <;> simp [hc, hf, hi]
/-- a map is written at a key that it lacks -/
theorem xupdate_k {T kt et : TypeId} {ks : List IntKind} (hT : P.underlying T = some (.map kt et)) (hk : KeyT P kt ks) {h : PH} {K : Own → PH → Prop} {b : Nat} {n : List Int} (hn : n.length = ks.length) {v : Value} (L1 L2 : Own) (es : List (List Int × Value)) (he : ∀ e ∈ es, e.1.length = ks.length) (hno : getK es n = none)
    (hK : K (L1 ++ ⟨b, 4294967295, entK ks (es ++ [(n, v)]), 0⟩ :: L2) h) : xDo P (Instr.mapUpdate T (.map (some b)) (kV ks n) v) (L1 ++ ⟨b, 4294967295, entK ks es, 0⟩ :: L2) h K := by
  intro W hg
  obtain ⟨ms, ck, h1, h2⟩ := own_map hg (b := b) (cs := entK ks es) (by simp)
  have hf := run_findKey_k (P := P) hk n hn ms.toList es he h2 W
  have hc := run_checkKey_ints (P := P) hk.u hk.ok n hn false W
  have hi : idxK es n 0 = none := by
    have := idxK_get es n 0
    rw [hno] at this
    simpa using this
  rw [hi] at hf
  have hstart : (Instr.mapUpdate T (.map (some b)) (kV ks n) v).run P W = (setObj b (.map (ms.push { key := kV ks n, val := v, born := ck }) (ck + 1)) : Sem Unit).run P W := by
    simp only [Instr.mapUpdate, Sem.run_bind, run_underlying hT, Result.andThen_ok, run_getMap h1, hc, hf]
  refine ⟨_, h, _, hstart.trans (run_setMap _ h1), hK, map_step hg h1 ?_⟩
  simp only [Array.toList_push, List.map_append, h2, entK]
  rfl
end Go.X

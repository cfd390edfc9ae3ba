/- The engine is sound: what it says of a piece of code holds of the model's runs. Conditions: the frame, the own blocks and the known cells are as the engine has them. -/
import Derived.Test.YtbobjcapmfpmkaaX
import Derived.Laws.CopyRow
import Derived.Laws.IdiomCopy
import Derived.ChangeSlices
set_option linter.unusedVariables false
set_option linter.unusedSimpArgs false
namespace Go.X
open Go.RowKit
variable {P : Program}

structure Ok (nt : Nat) (M : List Nat) (W0 : World) (E : Env) (L : Own) (h : PH) (a : Act) (W : World) : Prop where
  env : ∀ i v, E.lookup i = some v → a.tmps.getD i undef = v
  size : a.tmps.size = nt
  defers : a.defers = []
  good : Good L h W
  kept : Kept M W0 W
  fresh : ∀ e ∈ L, e.b ∈ M ∨ W0.heap.size ≤ e.b

theorem Kept.refl (M : List Nat) (W : World) : Kept M W W := ⟨rfl, rfl, rfl, Nat.le_refl _, fun _ _ _ => rfl⟩
theorem Step.refl {L : Own} {h : PH} {W : World} (hg : Good L h W) : Step L W L h W := ⟨hg, Kept.refl _ _, fun _ he => Or.inl (List.mem_map_of_mem he)⟩
theorem keptStep {M : List Nat} {W0 W W' : World} {L : Own} (k : Kept M W0 W) (fr : ∀ e ∈ L, e.b ∈ M ∨ W0.heap.size ≤ e.b) (k' : Kept (L.map Blk.b) W W') : Kept M W0 W' := by
  refine ⟨k'.os.trans k.os, k'.tape.trans k.tape, k'.output.trans k.output, Nat.le_trans k.size k'.size, fun i hi hM => ?_⟩
  rw [k'.block i (Nat.lt_of_lt_of_le hi k.size) ?_]
  · exact k.block i hi hM
  · intro hmem
    obtain ⟨e, he, rfl⟩ := List.mem_map.1 hmem
    rcases fr e he with h1 | h1
    · exact hM h1
    · omega
theorem Ok.step {nt : Nat} {M : List Nat} {W0 : World} {E : Env} {L L' : Own} {h h' : PH} {a : Act} {W W' : World} (ok : Ok nt M W0 E L h a W) (st : Step L W L' h' W') : Ok nt M W0 E L' h' a W' := by
  obtain ⟨g, k, f⟩ := st
  refine ⟨ok.env, ok.size, ok.defers, g, keptStep ok.kept ok.fresh k, fun e he => ?_⟩
  rcases f e he with h1 | h1
  · obtain ⟨e', he', hb⟩ := List.mem_map.1 h1
    rw [← hb]; exact ok.fresh e' he'
  · exact Or.inr (Nat.le_trans ok.kept.size h1)
theorem Ok.put {nt : Nat} {M : List Nat} {W0 : World} {E : Env} {L : Own} {h : PH} {a : Act} {W : World} (ok : Ok nt M W0 E L h a W) (d : Option Tmp) (v : Value) (hd : ∀ t, d = some t → t < nt) :
    Ok nt M W0 (cons d v E) L h (a.put d v) W := by
  cases d with
  | none => exact ok
  | some t =>
    have ht := hd t rfl
    refine ⟨fun i u hi => ?_, by simp [Act.put, ok.size], ok.defers, ok.good, ok.kept, ok.fresh⟩
    simp only [cons, List.lookup] at hi
    by_cases e : i = t
    · subst e
      simp at hi
      subst hi
      simp [Act.put, ok.size, ht]
    · have hne : (i == t) = false := by simpa using e
      rw [hne] at hi
      have := ok.env i u hi
      simp only [Act.put]
      rw [← this]
      simp [Array.getD_eq_getD_getElem?, Array.getElem?_setIfInBounds, Ne.symm e]

section
variable {E : Env} {a : Act} (he : ∀ i v, E.lookup i = some v → a.tmps.getD i undef = v)
include he
theorem xLook_sound {i : Nat} {K : Value → Prop} (hx : xLook E i K) : K (a.tmps.getD i undef) := by
  obtain ⟨v, h1, h2⟩ := hx; rw [he i v h1]; exact h2
theorem xVal_sound {x : Operand} {K : Value → Prop} (hx : xVal E x K) : K (a.eval x) := by
  cases x with
  | tmp i => exact xLook_sound he hx
  | const v => exact hx
  | global g => exact hx
  | func f => exact hx
theorem xVals_sound : ∀ {xs : List Operand} {K : List Value → Prop}, xVals E xs K → K (xs.map a.eval)
  | [], _, hx => hx
  | x :: xs, K, hx => by
    have := xVal_sound he (x := x) hx
    exact xVals_sound (xs := xs) (K := fun vs => K (a.eval x :: vs)) this
theorem vparts_sound : ∀ {ps : List (Nat × Operand)} {K : List (Nat × Value) → Prop}, vparts E ps K → K (ps.map fun (i, x) => (i, a.eval x))
  | [], _, hx => hx
  | (i, x) :: ps, K, hx => by
    have := xVal_sound he (x := x) hx
    exact vparts_sound (ps := ps) (K := fun vs => K ((i, a.eval x) :: vs)) this
theorem xOptV_sound {o : Option Operand} {K : Option Value → Prop} (hx : xOptV E o K) : K (o.map a.eval) := by
  cases o with
  | none => exact hx
  | some x => exact xVal_sound he (x := x) hx
end

theorem run_val {m : Sem Value} {v : Value} {W W' : World} (h : m.run P W = .ok v W') : (do pure (Next.value (← m)) : Sem Next).run P W = .ok (.value v) W' := by
  simp [h]
theorem xRun_sound {m : Sem Value} {K : Value → Prop} (hx : xRun P m K) (W : World) : ∃ v, K v ∧ (do pure (Next.value (← m)) : Sem Next).run P W = .ok (.value v) W := by
  obtain ⟨v, h1, h2⟩ := hx
  exact ⟨v, h2, run_val (h1 W)⟩

/-! ### memory -/
theorem cellAt_sound {L : Own} {h : PH} {W : World} (hg : Good L h W) {p : Addr} {j : Nat} {v : Value} (hc : cellAt L h (some p) j = some v) : W.cell? (p.add j) = some v := by
  simp only [cellAt] at hc
  split at hc
  · rename_i hs
    have ep : p.add j = ⟨(p.add j).block, (p.add j).off, none⟩ := by rw [← hs]
    rw [ep]
    cases hh : h (p.add j).block (p.add j).off with
    | some u =>
      rw [hh] at hc; simp only at hc; injection hc with hc; subst hc
      exact hg.sub _ _ _ hh
    | none =>
      rw [hh] at hc; simp only at hc
      have : ∀ (M : Own), (∀ e ∈ M, e ∈ L) → findOwn M (p.add j).block (p.add j).off = some v → W.cell? ⟨(p.add j).block, (p.add j).off, none⟩ = some v := by
        intro M
        induction M with
        | nil => intro _ h0; simp [findOwn] at h0
        | cons e M ih =>
          intro hM h0
          simp only [findOwn] at h0
          split at h0
          · rename_i hb
            obtain ⟨full, h1, _, h3⟩ := hg.own e (hM e (by simp))
            rw [← hb]
            simp only [World.cell?, h1]
            simpa using h3 _ _ h0
          · exact ih (fun x hx => hM x (by simp [hx])) h0
      exact this L (fun _ h => h) hc
  · cases hc
theorem add_add' (a : Addr) (i j : Nat) : (a.add i).add j = a.add (i + j) := by
  unfold Addr.add
  by_cases hi : i = 0 <;> by_cases hj : j = 0 <;> simp [hi, hj, Nat.add_assoc]
theorem xCells_sound {L : Own} {h : PH} {p : Addr} : ∀ {n j : Nat} {K : List Value → Prop}, xCells L h (some p) j n K →
    ∃ vs, K vs ∧ ∀ W acc, Good L h W → (loadCellsFrom p j n acc).run P W = .ok (acc ++ vs.toArray) W
  | 0, j, K, hx => ⟨[], hx, fun W acc _ => by simp [loadCellsFrom]⟩
  | n + 1, j, K, hx => by
    obtain ⟨v, hc, hk⟩ := hx
    obtain ⟨vs, h1, h2⟩ := xCells_sound (n := n) (j := j + 1) (K := fun vs => K (v :: vs)) hk
    refine ⟨v :: vs, h1, fun W acc hg => ?_⟩
    have hcell := cellAt_sound hg hc
    simp only [loadCellsFrom, Sem.run_bind, run_load, hcell, Result.andThen_ok, h2 W (acc.push v) hg]
    simp
theorem tI_some {t : TypeId} {ti : TI} (ht : tI P t = some ti) : ∃ i d z, P.info? t = some i ∧ P.underlying t = some d ∧ i.zero = some z ∧ ti = ⟨i.size, isAggD d, z.cells.toList, i.bytes⟩ := by
  unfold tI at ht
  split at ht
  · rename_i i d h1 h2
    split at ht
    · rename_i z h3
      injection ht with ht
      exact ⟨i, d, z, h1, h2, h3, ht.symm⟩
    · cases ht
  · cases ht
theorem run_isAgg {t : TypeId} {d : TypeDesc} (h : P.underlying t = some d) (W : World) : (isAgg t).run P W = .ok (isAggD d) W := by
  unfold isAgg underlying
  simp only [Sem.run_bind, run_program, Result.andThen_ok, h, Sem.run_pure]
  cases d <;> rfl
theorem run_sizeOf {t : TypeId} {i : TypeInfo} (h : P.info? t = some i) (W : World) : (sizeOf t).run P W = .ok i.size W := by
  simp [sizeOf, typeInfo, h]
theorem xLd_sound {L : Own} {h : PH} {p : Addr} {t : TypeId} {ti : TI} (ht : tI P t = some ti) {K : Value → Prop} (hx : xLd ti L h (some p) K) :
    ∃ v, K v ∧ ∀ W, Good L h W → (loadVar t p).run P W = .ok v W := by
  obtain ⟨i, d, z, h1, h2, h3, rfl⟩ := tI_some ht
  simp only [xLd] at hx
  cases hd : isAggD d with
  | true =>
    rw [hd] at hx
    simp only at hx
    obtain ⟨vs, hk, hr⟩ := xCells_sound (P := P) hx
    refine ⟨_, hk, fun W hg => ?_⟩
    unfold loadVar
    simp only [Sem.run_bind, run_isAgg h2, Result.andThen_ok, hd]
    simp only [if_true, Sem.run_bind, run_sizeOf h1, Result.andThen_ok, loadCells, hr W #[] hg, Sem.run_pure]
    simp
  | false =>
    rw [hd] at hx
    simp only at hx
    obtain ⟨v, hc, hk⟩ := hx
    refine ⟨v, hk, fun W hg => ?_⟩
    have := cellAt_sound hg hc
    have e0 : p.add 0 = p := by simp [Addr.add]
    rw [e0] at this
    unfold loadVar
    simp only [Sem.run_bind, run_isAgg h2, Result.andThen_ok, hd]
    simp [this]
end Go.X

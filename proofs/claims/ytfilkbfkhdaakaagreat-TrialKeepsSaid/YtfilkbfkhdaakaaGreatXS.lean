/- The engine is sound: what it says of a piece of code holds of the model's runs. Conditions: the frame, the own blocks and the known cells are as the engine has them. -/
import Derived.Test.YtfilkbfkhdaakaaGreatX
import Derived.Laws.CopyRow
import Derived.Laws.IdiomCopy
import Derived.ChangeSlices
set_option linter.unusedVariables false
set_option linter.unusedSimpArgs false
namespace Go.X
open Go.RowKit
variable {P : Program}

/-- the marks that loops over functions leave among a frame's deferred calls -/
structure Marks (n0 : Nat) (ds : List Deferred) (L : Own) (W : World) : Prop where
  at' : ∀ d ∈ ds, ∃ D, d = { target := .collected D, args := #[] } ∧ W.heap[D]? = some (.deferred (some [])) ∧ n0 ≤ D ∧ D ∉ L.map Blk.b
  nodup : ds.Nodup
theorem Marks.nil (n0 : Nat) (L : Own) (W : World) : Marks n0 [] L W := ⟨fun d hd => (by cases hd), List.nodup_nil⟩
structure Ok (nt : Nat) (M : List Nat) (W0 : World) (E : Env) (L : Own) (h : PH) (a : Act) (W : World) : Prop where
  env : ∀ i v, E.lookup i = some v → a.tmps.getD i undef = v
  size : a.tmps.size = nt
  marks : Marks W0.heap.size a.defers L W
  good : Good L h W
  kept : Kept M W0 W
  fresh : ∀ e ∈ L, e.b ∈ M ∨ W0.heap.size ≤ e.b

theorem Kept.refl (M : List Nat) (W : World) : Kept M W W := ⟨rfl, rfl, rfl, Nat.le_refl _, fun _ _ _ => rfl⟩
theorem Step.refl {L : Own} {h : PH} {W : World} (hg : Good L h W) : Step L W L h W := ⟨hg, Kept.refl _ _, fun _ he => Or.inl (List.mem_map_of_mem he)⟩
theorem Marks.step {n0 : Nat} {ds : List Deferred} {L L' : Own} {h' : PH} {W W' : World} (m : Marks n0 ds L W) (st : Step L W L' h' W') : Marks n0 ds L' W' := by
  obtain ⟨g, k, f⟩ := st
  refine ⟨fun d hd => ?_, m.nodup⟩
  obtain ⟨D, e, h1, h0, h2⟩ := m.at' d hd
  have hlt : D < W.heap.size := (Array.getElem?_eq_some_iff.1 h1).1
  refine ⟨D, e, by rw [k.block D hlt h2]; exact h1, h0, fun hm => ?_⟩
  obtain ⟨x, hx, hb⟩ := List.mem_map.1 hm
  rcases f x hx with h3 | h3
  · rw [hb] at h3; exact h2 h3
  · omega
theorem Marks.heap {n0 : Nat} {ds : List Deferred} {L L' : Own} {W W' : World} (m : Marks n0 ds L W) (hW : W'.heap = W.heap) (hL : ∀ e ∈ L', e.b ∈ L.map Blk.b) : Marks n0 ds L' W' := by
  refine ⟨fun d hd => ?_, m.nodup⟩
  obtain ⟨D, e, h1, h0, h2⟩ := m.at' d hd
  refine ⟨D, e, by rw [hW]; exact h1, h0, fun hm => ?_⟩
  obtain ⟨x, hx, hb⟩ := List.mem_map.1 hm
  exact h2 (hb ▸ hL x hx)
theorem keptStep {M : List Nat} {W0 W W' : World} {L : Own} (k : Kept M W0 W) (fr : ∀ e ∈ L, e.b ∈ M ∨ W0.heap.size ≤ e.b) (k' : Kept (L.map Blk.b) W W') : Kept M W0 W' := by
  refine ⟨k'.os.trans k.os, k'.tape.trans k.tape, k'.output.trans k.output, Nat.le_trans k.size k'.size, fun i hi hM => ?_⟩
  rw [k'.block i (Nat.lt_of_lt_of_le hi k.size) ?_]
  · exact k.block i hi hM
  · intro hmem
    obtain ⟨e, he, rfl⟩ := List.mem_map.1 hmem
    rcases fr e he with h1 | h1
    · exact hM h1
    · omega
theorem Ok.step {nt : Nat} {M : List Nat} {W0 : World} {E : Env} {L L' : Own} {h h' : PH} {a : Act} {W W' : World} (ok : Ok nt M W0 E L h a W) (st : Step L W L' h' W') : Ok nt M W0 E L' h' a W' := by
  have mk := ok.marks.step st
  obtain ⟨g, k, f⟩ := st
  refine ⟨ok.env, ok.size, mk, g, keptStep ok.kept ok.fresh k, fun e he => ?_⟩
  rcases f e he with h1 | h1
  · obtain ⟨e', he', hb⟩ := List.mem_map.1 h1
    rw [← hb]; exact ok.fresh e' he'
  · exact Or.inr (Nat.le_trans ok.kept.size h1)
theorem Ok.put {nt : Nat} {M : List Nat} {W0 : World} {E : Env} {L : Own} {h : PH} {a : Act} {W : World} (ok : Ok nt M W0 E L h a W) (d : Option Tmp) (v : Value) (hd : ∀ t, d = some t → t < nt) :
    Ok nt M W0 (cons d v E) L h (a.put d v) W := by
  cases d with
  | none => exact ok
  | some t =>
    have ht := hd t rfl
    refine ⟨fun i u hi => ?_, by simp [Act.put, ok.size], ok.marks, ok.good, ok.kept, ok.fresh⟩
    simp only [cons, List.lookup] at hi
    by_cases e : i = t
    · subst e
      simp at hi
      subst hi
      simp [Act.put, ok.size, ht]
    · have hne : (i == t) = false := by simpa using e
      rw [hne] at hi
      have := ok.env i u hi
      simp only [Act.put]
      rw [← this]
      simp [Array.getD_eq_getD_getElem?, Array.getElem?_setIfInBounds, Ne.symm e]

section
variable {E : Env} {a : Act} (he : ∀ i v, E.lookup i = some v → a.tmps.getD i undef = v)
include he
theorem xLook_sound {i : Nat} {K : Value → Prop} (hx : xLook E i K) : K (a.tmps.getD i undef) := by
  obtain ⟨v, h1, h2⟩ := hx; rw [he i v h1]; exact h2
theorem xVal_sound {x : Operand} {K : Value → Prop} (hx : xVal E x K) : K (a.eval x) := by
  cases x with
  | tmp i => exact xLook_sound he hx
  | const v => exact hx
  | global g => exact hx
  | func f => exact hx
theorem xVals_sound : ∀ {xs : List Operand} {K : List Value → Prop}, xVals E xs K → K (xs.map a.eval)
  | [], _, hx => hx
  | x :: xs, K, hx => by
    have := xVal_sound he (x := x) hx
    exact xVals_sound (xs := xs) (K := fun vs => K (a.eval x :: vs)) this
theorem vparts_sound : ∀ {ps : List (Nat × Operand)} {K : List (Nat × Value) → Prop}, vparts E ps K → K (ps.map fun (i, x) => (i, a.eval x))
  | [], _, hx => hx
  | (i, x) :: ps, K, hx => by
    have := xVal_sound he (x := x) hx
    exact vparts_sound (ps := ps) (K := fun vs => K ((i, a.eval x) :: vs)) this
theorem xOptV_sound {o : Option Operand} {K : Option Value → Prop} (hx : xOptV E o K) : K (o.map a.eval) := by
  cases o with
  | none => exact hx
  | some x => exact xVal_sound he (x := x) hx
end

theorem run_val {m : Sem Value} {v : Value} {W W' : World} (h : m.run P W = .ok v W') : (do pure (Next.value (← m)) : Sem Next).run P W = .ok (.value v) W' := by
  simp [h]
theorem xRun_sound {m : Sem Value} {K : Value → Prop} (hx : xRun P m K) (W : World) : ∃ v, K v ∧ (do pure (Next.value (← m)) : Sem Next).run P W = .ok (.value v) W := by
  obtain ⟨v, h1, h2⟩ := hx
  exact ⟨v, h2, run_val (h1 W)⟩

/-! ### memory -/
theorem cellAt_sound {L : Own} {h : PH} {W : World} (hg : Good L h W) {p : Addr} {j : Nat} {v : Value} (hc : cellAt L h (some p) j = some v) : W.cell? (p.add j) = some v := by
  simp only [cellAt] at hc
  split at hc
  · rename_i hs
    have ep : p.add j = ⟨(p.add j).block, (p.add j).off, none⟩ := by rw [← hs]
    rw [ep]
    cases hh : h (p.add j).block (p.add j).off with
    | some u =>
      rw [hh] at hc; simp only at hc; injection hc with hc; subst hc
      exact hg.sub _ _ _ hh
    | none =>
      rw [hh] at hc; simp only at hc
      have : ∀ (M : Own), (∀ e ∈ M, e ∈ L) → findOwn M (p.add j).block (p.add j).off = some v → W.cell? ⟨(p.add j).block, (p.add j).off, none⟩ = some v := by
        intro M
        induction M with
        | nil => intro _ h0; simp [findOwn] at h0
        | cons e M ih =>
          intro hM h0
          simp only [findOwn] at h0
          split at h0
          · rename_i hb
            split at h0
            · cases h0
            rename_i ht
            obtain ⟨full, h1, _, h3⟩ := (hg.own e (hM e (by simp))).cells ht
            rw [← hb]
            simp only [World.cell?, h1]
            simpa using h3 _ _ h0
          · exact ih (fun x hx => hM x (by simp [hx])) h0
      exact this L (fun _ h => h) hc
  · cases hc
theorem add_add' (a : Addr) (i j : Nat) : (a.add i).add j = a.add (i + j) := by
  unfold Addr.add
  by_cases hi : i = 0 <;> by_cases hj : j = 0 <;> simp [hi, hj, Nat.add_assoc]
theorem xCells_sound {L : Own} {h : PH} {p : Addr} : ∀ {n j : Nat} {K : List Value → Prop}, xCells L h (some p) j n K →
    ∃ vs, K vs ∧ ∀ W acc, Good L h W → (loadCellsFrom p j n acc).run P W = .ok (acc ++ vs.toArray) W
  | 0, j, K, hx => ⟨[], hx, fun W acc _ => by simp [loadCellsFrom]⟩
  | n + 1, j, K, hx => by
    obtain ⟨v, hc, hk⟩ := hx
    obtain ⟨vs, h1, h2⟩ := xCells_sound (n := n) (j := j + 1) (K := fun vs => K (v :: vs)) hk
    refine ⟨v :: vs, h1, fun W acc hg => ?_⟩
    have hcell := cellAt_sound hg hc
    simp only [loadCellsFrom, Sem.run_bind, run_load, hcell, Result.andThen_ok, h2 W (acc.push v) hg]
    simp
theorem tI_some {t : TypeId} {ti : TI} (ht : tI P t = some ti) : ∃ i d z, P.info? t = some i ∧ P.underlying t = some d ∧ i.zero = some z ∧ ti = ⟨i.size, isAggD d, z.cells.toList, i.bytes⟩ := by
  unfold tI at ht
  split at ht
  · rename_i i d h1 h2
    split at ht
    · rename_i z h3
      injection ht with ht
      exact ⟨i, d, z, h1, h2, h3, ht.symm⟩
    · cases ht
  · cases ht
theorem run_isAgg {t : TypeId} {d : TypeDesc} (h : P.underlying t = some d) (W : World) : (isAgg t).run P W = .ok (isAggD d) W := by
  unfold isAgg underlying
  simp only [Sem.run_bind, run_program, Result.andThen_ok, h, Sem.run_pure]
  cases d <;> rfl
theorem run_sizeOf {t : TypeId} {i : TypeInfo} (h : P.info? t = some i) (W : World) : (sizeOf t).run P W = .ok i.size W := by
  simp [sizeOf, typeInfo, h]
theorem xLd_sound {L : Own} {h : PH} {p : Addr} {t : TypeId} {ti : TI} (ht : tI P t = some ti) {K : Value → Prop} (hx : xLd ti L h (some p) K) :
    ∃ v, K v ∧ ∀ W, Good L h W → (loadVar t p).run P W = .ok v W := by
  obtain ⟨i, d, z, h1, h2, h3, rfl⟩ := tI_some ht
  simp only [xLd] at hx
  cases hd : isAggD d with
  | true =>
    rw [hd] at hx
    simp only at hx
    obtain ⟨vs, hk, hr⟩ := xCells_sound (P := P) hx
    refine ⟨_, hk, fun W hg => ?_⟩
    unfold loadVar
    simp only [Sem.run_bind, run_isAgg h2, Result.andThen_ok, hd]
    simp only [if_true, Sem.run_bind, run_sizeOf h1, Result.andThen_ok, loadCells, hr W #[] hg, Sem.run_pure]
    simp
  | false =>
    rw [hd] at hx
    simp only at hx
    obtain ⟨v, hc, hk⟩ := hx
    refine ⟨v, hk, fun W hg => ?_⟩
    have := cellAt_sound hg hc
    have e0 : p.add 0 = p := by simp [Addr.add]
    rw [e0] at this
    unfold loadVar
    simp only [Sem.run_bind, run_isAgg h2, Result.andThen_ok, hd]
    simp [this]
end Go.X
/-! The engine is sound, second part: stores, new blocks, each operation. Conditions: as in the first part. -/
namespace Go.X
open Go.RowKit
variable {P : Program}

theorem own_lt {L : Own} {h : PH} {W : World} (hg : Good L h W) {e : Blk} (he : e ∈ L) : e.b < W.heap.size := by
  rcases Nat.lt_or_ge e.b W.heap.size with h2 | h2
  · exact h2
  · exact absurd (Array.getElem?_eq_none h2) (hg.own e he).some
theorem known_lt {L : Own} {h : PH} {W : World} (hg : Good L h W) {b o : Nat} {v : Value} (hv : h b o = some v) : b < W.heap.size := by
  have := hg.sub b o v hv
  unfold World.cell? at this
  rcases Nat.lt_or_ge b W.heap.size with h1 | h1
  · exact h1
  · simp [Array.getElem?_eq_none h1] at this
/-- a new block -/
theorem new_obj {L : Own} {h : PH} {W : World} (hg : Good L h W) (x : Blk) (hx : x.b = W.heap.size) (o : Obj) (ho : BlkIs x (some o)) :
    Apart W.heap.size L ∧ h W.heap.size = noC ∧ Step L W (x :: L) h (W.alloc o) := by
  have hap : ∀ (M : Own), (∀ e ∈ M, e ∈ L) → Apart W.heap.size M := by
    intro M
    induction M with
    | nil => intro _; trivial
    | cons e M ih => intro hM; exact ⟨by have := own_lt hg (hM e (by simp)); omega, ih fun x hx => hM x (by simp [hx])⟩
  have hnc : h W.heap.size = noC := by
    funext o
    cases hh : h W.heap.size o with
    | none => rfl
    | some v => have := known_lt hg hh; omega
  refine ⟨hap L fun _ h => h, hnc, ?_, ?_, ?_⟩
  · refine ⟨fun b o v hv => ?_, fun e he => ?_, ?_, fun e he => ?_⟩
    · have := known_lt hg hv
      rw [World.cell?_alloc_lt W _ ⟨b, o, none⟩ this]; exact hg.sub b o v hv
    · rcases List.mem_cons.1 he with rfl | he
      · have e : (W.alloc o).heap[e.b]? = some o := by rw [hx]; show (W.heap.push _)[W.heap.size]? = _; simp
        rw [e]; exact ho
      · rw [Below.heap_alloc _ _ _ (own_lt hg he)]; exact hg.own e he
    · simp only [List.map_cons, List.nodup_cons, hx]
      refine ⟨fun hm => ?_, hg.nodup⟩
      obtain ⟨e, he, hb⟩ := List.mem_map.1 hm
      have := own_lt hg he
      omega
    · rcases List.mem_cons.1 he with rfl | he
      · rw [hx]; exact hnc
      · exact hg.apart e he
  · exact ⟨rfl, rfl, rfl, by simp, fun k hk _ => Below.heap_alloc _ _ _ hk⟩
  · intro e he
    rcases List.mem_cons.1 he with rfl | he
    · exact Or.inr (Nat.le_of_eq hx.symm)
    · exact Or.inl (List.mem_map_of_mem he)
theorem new_step {L : Own} {h : PH} {W : World} (hg : Good L h W) (cs : Array Value) (T : TypeId) (hT : T ≠ 4294967295) :
    Apart W.heap.size L ∧ h W.heap.size = noC ∧ Step L W (⟨W.heap.size, T, cs.toList, cs.toList.length⟩ :: L) h (W.alloc (.cells cs T)) :=
  new_obj hg _ rfl _ (.mk hT ⟨cs, rfl, by simp, fun i v hi => by simpa using hi⟩)

theorem wr_eq : ∀ (vs cs : List Value) (o : Nat), o + vs.length ≤ cs.length → wr cs o vs = cs.take o ++ vs ++ cs.drop (o + vs.length)
  | [], cs, o, _ => by simp [wr]
  | v :: vs, cs, o, hl => by
    simp only [List.length_cons] at hl
    rw [wr, wr_eq vs (cs.set o v) (o + 1) (by simp; omega)]
    apply List.ext_getElem?
    intro i
    simp only [List.length_cons, List.append_assoc, List.getElem?_append, List.length_take, List.length_set, List.getElem?_take, List.getElem?_set, List.getElem?_drop]
    rw [show min (o + 1) cs.length = o + 1 by omega, show min o cs.length = o by omega]
    by_cases h1 : i < o
    · have : i < o + 1 := by omega
      have h3 : o ≠ i := by omega
      simp [h1, this, h3]
    · by_cases h2 : i = o
      · subst h2
        have : i < cs.length := by omega
        simp [this]
      · have h3 : ¬ i < o + 1 := by omega
        have h4 : i - o = (i - (o + 1)) + 1 := by omega
        simp only [h1, h3, if_false, h4, List.getElem?_cons_succ]
        by_cases h5 : i - (o + 1) < vs.length
        · have h6 : i - (o + 1) + 1 < vs.length + 1 := by omega
          simp [h5, h6]
        · have h6 : ¬ i - (o + 1) + 1 < vs.length + 1 := by omega
          simp only [h5, h6, if_false]
          rw [if_neg (by omega), show i - (o + 1) + 1 - (vs.length + 1) = i - (o + 1) - vs.length by omega, show o + 1 + vs.length = o + (vs.length + 1) by omega]
/-- a store into a block of the call's own -/
theorem xSet_sound {h : PH} {W : World} {b o : Nat} {vs : List Value} : ∀ {L : Own} {K : Own → Prop}, Good L h W → xSet L b o vs K →
    ∃ L' W', K L' ∧ (storeCells ⟨b, o, none⟩ vs).run P W = .ok () W' ∧ Good L' h W' ∧ Kept [b] W W' ∧ L'.map Blk.b = L.map Blk.b ∧ b ∈ L.map Blk.b
  | [], _, _, hx => hx.elim
  | e :: L, K, hg, hx => by
    obtain ⟨h1, h2⟩ := hx
    by_cases hb : e.b = b
    · obtain ⟨het, hl, hone, hk⟩ := h1 hb
      subst hb
      obtain ⟨full, hf1, hf2, hf3⟩ := (hg.own e (by simp)).cells het
      have hle : e.cs.length ≤ full.size := by
        rcases Nat.lt_or_ge full.size e.cs.length with h5 | h5
        · have := hf3 full.size e.cs[full.size] (by simp [h5])
          simp at this
        · exact h5
      have hrun := run_storeCells_at (P := P) e.b o e.t vs 0 full W hf1 (by omega) (fun v hv => by simpa using List.all_eq_true.1 hone v hv)
      refine ⟨_, _, hk, hrun, ?_, ?_, rfl, by simp⟩
      · have hnd := hg.nodup
        simp only [List.map_cons, List.nodup_cons] at hnd
        refine ⟨fun b' o' v hv => ?_, fun e' he' => ?_, ?_, fun e' he' => ?_⟩
        · have hne : b' ≠ e.b := fun hbe => by
            have := hg.apart e (by simp)
            rw [hbe, this] at hv; cases hv
          rw [cell_setRow_other _ _ _ _ hne]; exact hg.sub b' o' v hv
        · rcases List.mem_cons.1 he' with rfl | he'
          · refine .mk het ⟨_, setRow_heap W e.b full _ e.t (0, 0) hf1, ?_, ?_⟩
            · simp; omega
            · intro i v hi
              simp only at hi
              rw [wr_eq vs e.cs o hl] at hi
              simp only [Nat.add_zero, List.getElem?_toArray]
              simp only [List.append_assoc, List.getElem?_append, List.length_take, List.getElem?_take, List.getElem?_drop, Array.length_toList] at hi ⊢
              rw [show min o e.cs.length = o by omega] at hi
              rw [show min o full.size = o by omega]
              split
              · rename_i h6
                rw [if_pos h6] at hi
                simp only [h6, if_true] at hi ⊢
                simpa using hf3 i v hi
              · rename_i h6
                rw [if_neg h6] at hi
                split
                · rename_i h7
                  rw [if_pos h7] at hi; exact hi
                · rename_i h7
                  rw [if_neg h7] at hi
                  simpa using hf3 _ v hi
          · have hne : e'.b ≠ e.b := fun hbe => hnd.1 (by rw [← hbe]; exact List.mem_map_of_mem he')
            rw [setRow_other _ _ _ _ hne]
            exact hg.own e' (by simp [he'])
        · exact hg.nodup
        · rcases List.mem_cons.1 he' with rfl | he'
          · exact hg.apart e (by simp)
          · exact hg.apart e' (by simp [he'])
      · refine ⟨rfl, rfl, rfl, by simp, fun k _ hk' => setRow_other _ _ _ _ ?_⟩
        simpa using hk'
    · have hg' : Good L h W := ⟨hg.sub, fun e' he' => hg.own e' (by simp [he']), (List.nodup_cons.1 hg.nodup).2, fun e' he' => hg.apart e' (by simp [he'])⟩
      obtain ⟨L', W', hk, hr, hgd, hkp, hm, hbm⟩ := xSet_sound (L := L) (K := fun L' => K (e :: L')) hg' (h2 hb)
      refine ⟨e :: L', W', hk, hr, ⟨hgd.sub, ?_, ?_, ?_⟩, hkp, by simp [hm], by simp [hbm]⟩
      · intro e' he'
        rcases List.mem_cons.1 he' with rfl | he'
        · rw [hkp.block _ (own_lt hg (by simp)) (by simpa using hb)]
          exact hg.own e' (by simp)
        · exact hgd.own e' he'
      · have := hg.nodup
        simp only [List.map_cons, hm] at this ⊢
        exact this
      · intro e' he'
        rcases List.mem_cons.1 he' with rfl | he'
        · exact hg.apart e' (by simp)
        · exact hgd.apart e' he'
theorem Kept.mono {M M' : List Nat} {W W' : World} (k : Kept M W W') (h : ∀ b ∈ M, b ∈ M') : Kept M' W W' :=
  ⟨k.os, k.tape, k.output, k.size, fun i hi hM => k.block i hi fun hm => hM (h i hm)⟩
end Go.X

/- The engine is sound, second part: stores, new blocks, each operation. Conditions: as in the first part. -/
import Derived.Test.YtbobjcapmfpmkaaXS
set_option linter.unusedVariables false
set_option linter.unusedSimpArgs false
namespace Go.X
open Go.RowKit
variable {P : Program}

theorem own_lt {L : Own} {h : PH} {W : World} (hg : Good L h W) {e : Blk} (he : e ∈ L) : e.b < W.heap.size := by
  obtain ⟨full, h1, _⟩ := hg.own e he
  rcases Nat.lt_or_ge e.b W.heap.size with h2 | h2
  · exact h2
  · simp [Array.getElem?_eq_none h2] at h1
theorem known_lt {L : Own} {h : PH} {W : World} (hg : Good L h W) {b o : Nat} {v : Value} (hv : h b o = some v) : b < W.heap.size := by
  have := hg.sub b o v hv
  unfold World.cell? at this
  rcases Nat.lt_or_ge b W.heap.size with h1 | h1
  · exact h1
  · simp [Array.getElem?_eq_none h1] at this
/-- a new block -/
theorem new_step {L : Own} {h : PH} {W : World} (hg : Good L h W) (cs : Array Value) (T : TypeId) :
    Apart W.heap.size L ∧ h W.heap.size = noC ∧ Step L W (⟨W.heap.size, T, cs.toList, cs.toList.length⟩ :: L) h (W.alloc (.cells cs T)) := by
  have hap : ∀ (M : Own), (∀ e ∈ M, e ∈ L) → Apart W.heap.size M := by
    intro M
    induction M with
    | nil => intro _; trivial
    | cons e M ih => intro hM; exact ⟨by have := own_lt hg (hM e (by simp)); omega, ih fun x hx => hM x (by simp [hx])⟩
  have hnc : h W.heap.size = noC := by
    funext o
    cases hh : h W.heap.size o with
    | none => rfl
    | some v => have := known_lt hg hh; omega
  refine ⟨hap L fun _ h => h, hnc, ?_, ?_, ?_⟩
  · refine ⟨fun b o v hv => ?_, fun e he => ?_, ?_, fun e he => ?_⟩
    · have := known_lt hg hv
      rw [World.cell?_alloc_lt W _ ⟨b, o, none⟩ this]; exact hg.sub b o v hv
    · rcases List.mem_cons.1 he with rfl | he
      · exact ⟨cs, by show (W.heap.push _)[W.heap.size]? = _; simp, by simp, fun i v hi => by simpa using hi⟩
      · obtain ⟨full, h1, h2, h3⟩ := hg.own e he
        have := own_lt hg he
        exact ⟨full, by rw [Below.heap_alloc _ _ _ this]; exact h1, h2, h3⟩
    · simp only [List.map_cons, List.nodup_cons]
      refine ⟨fun hm => ?_, hg.nodup⟩
      obtain ⟨e, he, hb⟩ := List.mem_map.1 hm
      have := own_lt hg he
      omega
    · rcases List.mem_cons.1 he with rfl | he
      · exact hnc
      · exact hg.apart e he
  · exact ⟨rfl, rfl, rfl, by simp, fun k hk _ => Below.heap_alloc _ _ _ hk⟩
  · intro e he
    rcases List.mem_cons.1 he with rfl | he
    · exact Or.inr (Nat.le_refl _)
    · exact Or.inl (List.mem_map_of_mem he)

theorem wr_eq : ∀ (vs cs : List Value) (o : Nat), o + vs.length ≤ cs.length → wr cs o vs = cs.take o ++ vs ++ cs.drop (o + vs.length)
  | [], cs, o, _ => by simp [wr]
  | v :: vs, cs, o, hl => by
    simp only [List.length_cons] at hl
    rw [wr, wr_eq vs (cs.set o v) (o + 1) (by simp; omega)]
    apply List.ext_getElem?
    intro i
    simp only [List.length_cons, List.append_assoc, List.getElem?_append, List.length_take, List.length_set, List.getElem?_take, List.getElem?_set, List.getElem?_drop]
    rw [show min (o + 1) cs.length = o + 1 by omega, show min o cs.length = o by omega]
    by_cases h1 : i < o
    · have : i < o + 1 := by omega
      have h3 : o ≠ i := by omega
      simp [h1, this, h3]
    · by_cases h2 : i = o
      · subst h2
        have : i < cs.length := by omega
        simp [this]
      · have h3 : ¬ i < o + 1 := by omega
        have h4 : i - o = (i - (o + 1)) + 1 := by omega
        simp only [h1, h3, if_false, h4, List.getElem?_cons_succ]
        by_cases h5 : i - (o + 1) < vs.length
        · have h6 : i - (o + 1) + 1 < vs.length + 1 := by omega
          simp [h5, h6]
        · have h6 : ¬ i - (o + 1) + 1 < vs.length + 1 := by omega
          simp only [h5, h6, if_false]
          rw [if_neg (by omega), show i - (o + 1) + 1 - (vs.length + 1) = i - (o + 1) - vs.length by omega, show o + 1 + vs.length = o + (vs.length + 1) by omega]
/-- a store into a block of the call's own -/
theorem xSet_sound {h : PH} {W : World} {b o : Nat} {vs : List Value} : ∀ {L : Own} {K : Own → Prop}, Good L h W → xSet L b o vs K →
    ∃ L' W', K L' ∧ (storeCells ⟨b, o, none⟩ vs).run P W = .ok () W' ∧ Good L' h W' ∧ Kept [b] W W' ∧ L'.map Blk.b = L.map Blk.b ∧ b ∈ L.map Blk.b
  | [], _, _, hx => hx.elim
  | e :: L, K, hg, hx => by
    obtain ⟨h1, h2⟩ := hx
    by_cases hb : e.b = b
    · obtain ⟨hl, hone, hk⟩ := h1 hb
      subst hb
      obtain ⟨full, hf1, hf2, hf3⟩ := hg.own e (by simp)
      have hle : e.cs.length ≤ full.size := by
        rcases Nat.lt_or_ge full.size e.cs.length with h5 | h5
        · have := hf3 full.size e.cs[full.size] (by simp [h5])
          simp at this
        · exact h5
      have hrun := run_storeCells_at (P := P) e.b o e.t vs 0 full W hf1 (by omega) (fun v hv => by simpa using List.all_eq_true.1 hone v hv)
      refine ⟨_, _, hk, hrun, ?_, ?_, rfl, by simp⟩
      · have hnd := hg.nodup
        simp only [List.map_cons, List.nodup_cons] at hnd
        refine ⟨fun b' o' v hv => ?_, fun e' he' => ?_, ?_, fun e' he' => ?_⟩
        · have hne : b' ≠ e.b := fun hbe => by
            have := hg.apart e (by simp)
            rw [hbe, this] at hv; cases hv
          rw [cell_setRow_other _ _ _ _ hne]; exact hg.sub b' o' v hv
        · rcases List.mem_cons.1 he' with rfl | he'
          · refine ⟨_, setRow_heap W e.b full _ e.t (0, 0) hf1, ?_, ?_⟩
            · simp; omega
            · intro i v hi
              simp only at hi
              rw [wr_eq vs e.cs o hl] at hi
              simp only [Nat.add_zero, List.getElem?_toArray]
              simp only [List.append_assoc, List.getElem?_append, List.length_take, List.getElem?_take, List.getElem?_drop, Array.length_toList] at hi ⊢
              rw [show min o e.cs.length = o by omega] at hi
              rw [show min o full.size = o by omega]
              split
              · rename_i h6
                rw [if_pos h6] at hi
                simp only [h6, if_true] at hi ⊢
                simpa using hf3 i v hi
              · rename_i h6
                rw [if_neg h6] at hi
                split
                · rename_i h7
                  rw [if_pos h7] at hi; exact hi
                · rename_i h7
                  rw [if_neg h7] at hi
                  simpa using hf3 _ v hi
          · have hne : e'.b ≠ e.b := fun hbe => hnd.1 (by rw [← hbe]; exact List.mem_map_of_mem he')
            obtain ⟨full', g1, g2, g3⟩ := hg.own e' (by simp [he'])
            exact ⟨full', by rw [setRow_other _ _ _ _ hne]; exact g1, g2, g3⟩
        · exact hg.nodup
        · rcases List.mem_cons.1 he' with rfl | he'
          · exact hg.apart e (by simp)
          · exact hg.apart e' (by simp [he'])
      · refine ⟨rfl, rfl, rfl, by simp, fun k _ hk' => setRow_other _ _ _ _ ?_⟩
        simpa using hk'
    · have hg' : Good L h W := ⟨hg.sub, fun e' he' => hg.own e' (by simp [he']), (List.nodup_cons.1 hg.nodup).2, fun e' he' => hg.apart e' (by simp [he'])⟩
      obtain ⟨L', W', hk, hr, hgd, hkp, hm, hbm⟩ := xSet_sound (L := L) (K := fun L' => K (e :: L')) hg' (h2 hb)
      refine ⟨e :: L', W', hk, hr, ⟨hgd.sub, ?_, ?_, ?_⟩, hkp, by simp [hm], by simp [hbm]⟩
      · intro e' he'
        rcases List.mem_cons.1 he' with rfl | he'
        · obtain ⟨full, f1, f2, f3⟩ := hg.own e' (by simp)
          exact ⟨full, by rw [hkp.block _ (own_lt hg (by simp)) (by simpa using hb)]; exact f1, f2, f3⟩
        · exact hgd.own e' he'
      · have := hg.nodup
        simp only [List.map_cons, hm] at this ⊢
        exact this
      · intro e' he'
        rcases List.mem_cons.1 he' with rfl | he'
        · exact hg.apart e' (by simp)
        · exact hgd.apart e' he'
theorem Kept.mono {M M' : List Nat} {W W' : World} (k : Kept M W W') (h : ∀ b ∈ M, b ∈ M') : Kept M' W W' :=
  ⟨k.os, k.tape, k.output, k.size, fun i hi hM => k.block i hi fun hm => hM (h i hm)⟩
end Go.X

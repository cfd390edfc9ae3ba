/- Contracts of the document's layers 16, 18, 20, 23, and of bullionref24's row and pools. Conditions: the values read as such, or as a state. -/
import Derived.Test.YtfilkbfkhdaakaaGreatSH
set_option linter.unusedVariables false
set_option linter.unusedSimpArgs false
namespace Go.X
open Go.RowKit Go.Proofs Go.Bl
variable {L : Own} {h : PH} {K : PK}
/-! ### plain -/
theorem perm_of_sub : ∀ (A l : List Int), A.Nodup → (∀ x ∈ A, x ∈ l) → l.length = A.length → l.Perm A
  | [], l, _, _, hl => by
    have : l = [] := List.eq_nil_of_length_eq_zero (by simpa using hl)
    subst this
    exact List.Perm.refl _
  | a :: A, l, hn, hs, hl => by
    obtain ⟨l1, l2, rfl⟩ := List.append_of_mem (hs a (by simp))
    have hn' := List.nodup_cons.1 hn
    have ih := perm_of_sub A (l1 ++ l2) hn'.2 (fun x hx => by
      have := hs x (by simp [hx])
      rcases List.mem_append.1 this with h | h
      · exact List.mem_append.2 (Or.inl h)
      · rcases List.mem_cons.1 h with h | h
        · subst h; exact absurd hx hn'.1
        · exact List.mem_append.2 (Or.inr h)) (by simp at hl ⊢; omega)
    exact List.perm_middle.trans (ih.cons a)
/-- the members of a status -/
def setS (s : StD) (st : Int) : Nat → List Int
  | 0 => []
  | k + 1 => setS s st k ++ if (gr zeroM s.members k).status = st then [(k : Int)] else []
theorem setS_len (s : StD) (st : Int) : ∀ k, (setS s st k).length = cntS s.members st k
  | 0 => rfl
  | k + 1 => by simp only [setS, cntS, List.length_append, setS_len s st k]; split <;> simp
theorem setS_mem (s : StD) (st : Int) : ∀ (k : Nat) (x : Int), x ∈ setS s st k ↔ ∃ j : Nat, j < k ∧ x = j ∧ (gr zeroM s.members j).status = st
  | 0, x => by simp [setS]
  | k + 1, x => by
    simp only [setS, List.mem_append, setS_mem s st k x]
    constructor
    · rintro (⟨j, h1, h2, h3⟩ | h)
      · exact ⟨j, by omega, h2, h3⟩
      · split at h
        · rename_i c
          exact ⟨k, by omega, by simpa using h, c⟩
        · cases h
    · rintro ⟨j, h1, h2, h3⟩
      by_cases e : j = k
      · subst e; right; rw [if_pos h3]; simpa using h2
      · exact .inl ⟨j, by omega, h2, h3⟩
theorem setS_nodup (s : StD) (st : Int) : ∀ k, (setS s st k).Nodup
  | 0 => List.nodup_nil
  | k + 1 => by
    simp only [setS]
    refine List.nodup_append.2 ⟨setS_nodup s st k, by split <;> simp, fun a ha b hb => ?_⟩
    obtain ⟨j, h1, h2, _⟩ := (setS_mem s st k a).1 ha
    split at hb
    · have : b = (k : Int) := by simpa using hb
      omega
    · cases hb
/-- the document's row -/
def rowR1 (s : StD) (l : List Int) (st : Int) (i : Nat) : Bool := wi (at0 l i) 0 ((s.members.length : Int) - 1) && decide ((gr zeroM s.members (at0 l i).toNat).status = st) && !decide (at0 l i ∈ l.take i)
theorem rowR_nodup {s : StD} {l : List Int} {st : Int} : ∀ (n : Nat), n ≤ l.length → (∀ i, i < n → rowR1 s l st i = true) → (l.take n).Nodup
  | 0, _, _ => by simp
  | n + 1, hn, hq => by
    rw [List.take_succ_eq_append_getElem (by omega)]
    refine List.nodup_append.2 ⟨rowR_nodup n (by omega) (fun i hi => hq i (by omega)), by simp, fun a ha b hb => ?_⟩
    have := hq n (by omega)
    simp only [rowR1, Bool.and_eq_true, Bool.not_eq_true', decide_eq_false_iff_not] at this
    have hb' : b = at0 l n := by rw [← at0_lt (by omega)]; simpa using hb
    intro e
    rw [hb'] at e
    exact this.2 (e ▸ ha)
theorem row_iff {s : StD} {l : List Int} {st : Int} : rowB s l st = true ↔ (∀ i, i < l.length → rowR1 s l st i = true) ∧ (∀ j, j < s.members.length → (gr zeroM s.members j).status = st → (j : Int) ∈ l) := by
  constructor
  · intro h
    simp only [rowB, Bool.and_eq_true, decide_eq_true_eq] at h
    obtain ⟨h1, h2⟩ := h
    have hall : ∀ j, j < s.members.length → (gr zeroM s.members j).status = st → (j : Int) ∈ l := fun j hj hst => by
      rw [hasB, List.all_eq_true] at h1
      have := h1 j (List.mem_range.2 hj)
      simpa [hst] using this
    have hp : l.Perm (setS s st s.members.length) := perm_of_sub _ _ (setS_nodup s st _) (fun x hx => by
      obtain ⟨j, j1, rfl, j3⟩ := (setS_mem s st _ x).1 hx
      exact hall j j1 j3) (by rw [setS_len]; exact h2)
    refine ⟨fun i hi => ?_, hall⟩
    have hx : at0 l i ∈ l := by rw [← at0_lt hi]; exact List.getElem_mem hi
    obtain ⟨j, j1, j2, j3⟩ := (setS_mem s st _ _).1 (hp.mem_iff.1 hx)
    have hnd : l.Nodup := hp.nodup_iff.2 (setS_nodup s st _)
    simp only [rowR1, Bool.and_eq_true, wi_iff, decide_eq_true_eq, Bool.not_eq_true', decide_eq_false_iff_not]
    refine ⟨⟨by omega, by rw [j2]; simpa using j3⟩, fun hm => ?_⟩
    obtain ⟨m, hm1, hm2⟩ := List.mem_iff_getElem.1 hm
    simp only [List.length_take] at hm1
    rw [List.getElem_take] at hm2
    exact (List.pairwise_iff_getElem.1 hnd m i (by omega) hi (by omega)) (by rw [at0_lt (by omega), at0_lt hi]; rw [at0_lt (by omega)] at hm2; exact hm2)
  · rintro ⟨h1, h2⟩
    have hnd := rowR_nodup l.length (Nat.le_refl _) h1
    rw [List.take_length] at hnd
    have hp : (setS s st s.members.length).Perm l := by
      have hsub : ∀ x ∈ l, x ∈ setS s st s.members.length := fun x hx => by
        obtain ⟨i, hi, rfl⟩ := List.mem_iff_getElem.1 hx
        have := h1 i hi
        simp only [rowR1, Bool.and_eq_true, wi_iff, decide_eq_true_eq] at this
        obtain ⟨⟨⟨a, b⟩, c⟩, _⟩ := this
        rw [at0_lt hi]
        exact (setS_mem s st _ _).2 ⟨(at0 l i).toNat, by omega, by omega, c⟩
      have hsub2 : ∀ x ∈ setS s st s.members.length, x ∈ l := fun x hx => by
        obtain ⟨j, j1, rfl, j3⟩ := (setS_mem s st _ x).1 hx
        exact h2 j j1 j3
      exact (List.perm_ext_iff_of_nodup (setS_nodup s st _) hnd).2 fun x => ⟨hsub2 x, hsub x⟩
    simp only [rowB, Bool.and_eq_true, decide_eq_true_eq]
    exact ⟨hasB_true h2, by rw [← hp.length_eq, setS_len]⟩
theorem row_no1 {s : StD} {l : List Int} {st : Int} {i : Nat} (hi : i < l.length) (hq : rowR1 s l st i = false) : rowB s l st = false := by
  cases hc : rowB s l st with
  | false => rfl
  | true => have := (row_iff.1 hc).1 i hi; rw [hq] at this; cases this
/-- the document's dues -/
def pairB (l : List DueD) (k j : Nat) : Bool := decide ((gr zeroDue l j).at' ≤ (gr zeroDue l k).at') && !(decide ((gr zeroDue l j).at' = (gr zeroDue l k).at') && decide ((gr zeroDue l j).acct = (gr zeroDue l k).acct))
theorem dues_pairs {s : StD} : duesB s = true ↔ ∀ k, k < s.dues.length → due1B s (gr zeroDue s.dues k) = true ∧ ∀ j, j < k → pairB s.dues k j = true := by
  have hall : duesB s = true ↔ ∀ k, k < s.dues.length → dueB s k = true := by
    rw [duesB, List.all_eq_true]; exact ⟨fun h k hk => h k (List.mem_range.2 hk), fun h k hk => h k (List.mem_range.1 hk)⟩
  rw [hall]
  have met : ∀ k, metB s.dues k = false ↔ ∀ j, j < k → ¬ ((gr zeroDue s.dues k).acct = (gr zeroDue s.dues j).acct ∧ (gr zeroDue s.dues k).at' = (gr zeroDue s.dues j).at') := fun k => by
    rw [metB, List.any_eq_false]
    exact ⟨fun h j hj hc => by have := h j (List.mem_range.2 hj); simp [hc.1, hc.2] at this, fun h j hj => by
      have := h j (List.mem_range.1 hj)
      simpa using this⟩
  constructor
  · intro h
    have sorted : ∀ k, k < s.dues.length → ∀ j, j ≤ k → (gr zeroDue s.dues j).at' ≤ (gr zeroDue s.dues k).at' := by
      intro k
      induction k with
      | zero => intro _ j hj; have : j = 0 := by omega
                subst this; exact Int.le_refl _
      | succ k ih =>
        intro hk j hj
        by_cases e : j = k + 1
        · subst e; exact Int.le_refl _
        · have a := ih (by omega) j (by omega)
          have b := h (k + 1) hk
          simp only [dueB, Bool.and_eq_true, ordB, Bool.or_eq_true, decide_eq_true_eq, Nat.add_sub_cancel] at b
          rcases b.2 with c | c
          · omega
          · omega
    intro k hk
    have b := h k hk
    simp only [dueB, Bool.and_eq_true, Bool.not_eq_true'] at b
    refine ⟨b.1.1, fun j hj => ?_⟩
    have c := (met k).1 b.1.2 j hj
    have d := sorted k hk j (by omega)
    simp only [pairB, Bool.and_eq_true, decide_eq_true_eq, Bool.not_eq_true', Bool.and_eq_false_iff, decide_eq_false_iff_not]
    refine ⟨d, ?_⟩
    by_cases e : (gr zeroDue s.dues j).at' = (gr zeroDue s.dues k).at'
    · exact .inr fun e2 => c ⟨e2.symm, e.symm⟩
    · exact .inl e
  · intro h k hk
    obtain ⟨a, b⟩ := h k hk
    have pr : ∀ j, j < k → (gr zeroDue s.dues j).at' ≤ (gr zeroDue s.dues k).at' ∧ ¬ ((gr zeroDue s.dues j).at' = (gr zeroDue s.dues k).at' ∧ (gr zeroDue s.dues j).acct = (gr zeroDue s.dues k).acct) := fun j hj => by
      have := b j hj
      simp only [pairB, Bool.and_eq_true, decide_eq_true_eq, Bool.not_eq_true', Bool.and_eq_false_iff, decide_eq_false_iff_not] at this
      exact ⟨this.1, fun e => by rcases this.2 with c | c; exact c e.1; exact c e.2⟩
    simp only [dueB, Bool.and_eq_true, Bool.not_eq_true', a, true_and]
    refine ⟨(met k).2 fun j hj e => (pr j hj).2 ⟨e.2.symm, e.1.symm⟩, ?_⟩
    simp only [ordB, Bool.or_eq_true, decide_eq_true_eq]
    by_cases e : k = 0
    · exact .inl e
    · exact .inr (pr (k - 1) (by omega)).1
theorem dues_no {s : StD} {k : Nat} (hk : k < s.dues.length) (hq : due1B s (gr zeroDue s.dues k) = false) : duesB s = false := not_duesB hk (by simp [dueB, hq])
theorem dues_no2 {s : StD} {k j : Nat} (hk : k < s.dues.length) (hj : j < k) (hq : pairB s.dues k j = false) : duesB s = false := by
  cases hc : duesB s with
  | false => rfl
  | true => have := ((dues_pairs.1 hc) k hk).2 j hj; rw [hq] at this; cases this
end Go.X

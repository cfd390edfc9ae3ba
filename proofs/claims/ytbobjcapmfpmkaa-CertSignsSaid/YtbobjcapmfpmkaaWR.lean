/- Plain facts on certificates for CertMeets: weights of two fields together and in both, a merged certificate and one more signed is right. Conditions: as each lemma says. -/
import Derived.Test.YtbobjcapmfpmkaaWP
set_option linter.unusedVariables false
set_option linter.unusedSimpArgs false
namespace Go.X
open Go.RowKit Go.Proofs Go.Bl
variable {h : PH}

theorem wsum_or_and (st : List Int) (f g : Nat → Bool) : ∀ k, wsum st (fun i => f i || g i) k + wsum st (fun i => f i && g i) k = wsum st f k + wsum st g k
  | 0 => by simp [wsum]
  | k + 1 => by
    have ih := wsum_or_and st f g k
    simp only [wsum]
    generalize at0 st k = z at ih ⊢
    generalize wsum st (fun i => f i || g i) k = w1 at ih ⊢
    generalize wsum st (fun i => f i && g i) k = w2 at ih ⊢
    by_cases hf : f k = true <;> by_cases hg : g k = true <;> simp [hf, hg] <;> omega
theorem wsum_mono (st : List Int) (h0 : ∀ i, 0 ≤ at0 st i) (f g : Nat → Bool) (hfg : ∀ i, f i = true → g i = true) : ∀ k, wsum st f k ≤ wsum st g k
  | 0 => by simp [wsum]
  | k + 1 => by
    have ih := wsum_mono st h0 f g hfg k
    have := h0 k
    have hh := hfg k
    simp only [wsum]
    cases hf : f k
    · cases g k <;> simp <;> omega
    · simp [hh hf]; omega
theorem wsum_congr (st : List Int) (f g : Nat → Bool) (hfg : ∀ i, f i = g i) (k : Nat) : wsum st f k = wsum st g k := by
  rw [show f = g from funext hfg]
theorem right_bits {c m : CertD} (hr : rightC c = true) (e1 : m.ep = c.ep) (e2 : m.mem = c.mem) (e3 : m.st = c.st) (hb : rightB m.bs m.mem = true) (hp : ∀ i, i < c.st.length → at0 c.st i = 0 → getB m.bs i = false) : rightC m = true := by
  have hf := headC_facts (rightC_head hr)
  refine rightC_of ?_ fun i hi => ?_
  · simp only [headC, Bool.and_eq_true, decide_eq_true_eq]
    rw [e1, e2, e3]
    exact ⟨hf, by rw [← e2]; exact hb⟩
  · rw [e3] at hi
    have := rightC_place hr i hi
    simp only [placeC, Bool.and_eq_true, decide_eq_true_eq] at this ⊢
    rw [e3]
    refine ⟨this.1, ?_⟩
    by_cases hz : at0 c.st i = 0
    · simp [hp i hi hz]
    · simp [hz]
theorem place_zero {c : CertD} (hr : rightC c = true) (i : Nat) (hi : i < c.st.length) (hz : at0 c.st i = 0) : getB c.bs i = false := by
  have := rightC_place hr i hi
  simp only [placeC, Bool.and_eq_true, decide_eq_true_eq, hz] at this
  simpa using this.2
/-- merged: right, too -/
theorem right_merged {c d m : CertD} (hb : ∀ i, 0 ≤ at0 m.bs i ∧ at0 m.bs i ≤ 255) (hr : rightC c = true) (hr' : rightC d = true) (em : d.mem = c.mem) (es : d.st = c.st) (e1 : m.ep = c.ep) (e2 : m.mem = c.mem) (e3 : m.st = c.st) (hl : (m.bs.length : Int) = (c.mem + 7) / 8) (hg : ∀ i : Nat, getB m.bs i = (getB c.bs i || getB d.bs i)) : rightC m = true := by
  have hf := headC_facts (rightC_head hr)
  refine right_bits hr e1 e2 e3 ?_ fun i hi hz => ?_
  · rw [← chk_right _ _ hb]
    refine chk_of hb (by omega) (by omega) (by omega) fun j hj => ?_
    rw [hg j, right_beyond hr j (by omega), right_beyond hr' j (by omega)]; rfl
  · rw [hg i, place_zero hr i hi hz, place_zero hr' i (by rw [es]; exact hi) (by rw [es]; exact hz)]; rfl
/-- with one more: right, too -/
theorem right_signed {c : CertD} (i : Int) (hb : ∀ i, 0 ≤ at0 c.bs i ∧ at0 c.bs i ≤ 255) (hr : rightC c = true) (h0 : 0 ≤ i) (h1 : i < c.mem) (h2 : at0 c.st i.toNat ≠ 0) : rightC { c with bs := setB c.bs i } = true := by
  have hf := headC_facts (rightC_head hr)
  have hl := rightC_len hr
  have hg := getB_setB hb i h0 (by omega)
  refine right_bits hr rfl rfl rfl ?_ fun j hj hz => ?_
  · have hb' := setB_byte hb i (by omega)
    rw [← chk_right _ _ hb']
    refine chk_of hb' (by simp only; omega) (by simp only; omega) (by simp only [setB, List.length_set]; omega) fun j hj => ?_
    have : ¬ (j : Int) = i := by simp only at hj; omega
    rw [hg j, right_beyond hr j hj]; simp [this]
  · have : ¬ (j : Int) = i := by
      intro e; subst e
      exact h2 (by simpa using hz)
    simp only
    rw [hg j, place_zero hr j hj hz]; simp [this]
end Go.X

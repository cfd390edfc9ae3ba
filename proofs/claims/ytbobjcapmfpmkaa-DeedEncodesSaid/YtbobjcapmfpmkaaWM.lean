/- Contract of bullionref40.Sign: it hands back what cert.Sign does. Conditions: the value reads as a certificate. -/
import Derived.Test.YtbobjcapmfpmkaaWL
set_option linter.unusedVariables false
set_option linter.unusedSimpArgs false
namespace Go.X
open Go.RowKit Go.Proofs Go.Bl
variable {L : Own} {h : PH} {K : PK}

theorem setB_byte {xs : List Int} (hb : ∀ i, 0 ≤ at0 xs i ∧ at0 xs i ≤ 255) (i : Int) (h1 : (i / 8).toNat < xs.length) (j : Nat) : 0 ≤ at0 (setB xs i) j ∧ at0 (setB xs i) j ≤ 255 := by
  unfold setB
  rw [at0_set _ _ _ _ h1]
  split
  · have := orB_spec (at0 xs (i / 8).toNat) (i % 8).toNat (hb _).1 (hb _).2 (by omega)
    exact ⟨this.1, this.2.1⟩
  · exact hb j
theorem getB_setB {xs : List Int} (hb : ∀ i, 0 ≤ at0 xs i ∧ at0 xs i ≤ 255) (i : Int) (h0 : 0 ≤ i) (h1 : i / 8 < (xs.length : Int)) (j : Nat) : getB (setB xs i) j = (decide ((j : Int) = i) || getB xs j) := by
  have hl : (setB xs i).length = xs.length := by simp [setB]
  by_cases hj : (j : Int) / 8 < (xs.length : Int)
  · rw [getB_in _ _ (by omega) (by omega), getB_in _ _ (by omega) (by omega)]
    unfold setB
    rw [at0_set _ _ _ _ (by omega)]
    by_cases e : ((j : Int) / 8).toNat = (i / 8).toNat
    · rw [if_pos e, e]
      have sp := (orB_spec (at0 xs (i / 8).toNat) (i % 8).toNat (hb _).1 (hb _).2 (by omega)).2.2 ((j : Int) % 8).toNat (by omega)
      rw [Bool.eq_iff_iff]
      simp only [Bool.or_eq_true, decide_eq_true_eq]
      rw [sp]
      constructor
      · intro h
        exact h.imp (fun h => by omega) id
      · intro h
        exact h.imp (fun h => by omega) id
    · rw [if_neg e]
      have : (j : Int) ≠ i := fun h => e (by rw [h])
      simp [this]
  · rw [getB_out _ _ (by omega), getB_out _ _ (by omega)]
    have : (j : Int) ≠ i := fun h => by omega
    simp [this]
theorem right_beyond {c : CertD} (hr : rightC c = true) (j : Nat) (hj : c.mem ≤ (j : Int)) : getB c.bs j = false := by
  have h1 := rightC_head hr
  simp only [headC, rightB, Bool.and_eq_true, decide_eq_true_eq, List.all_eq_true, List.mem_range, Bool.or_eq_true, Bool.not_eq_true'] at h1
  by_cases hl : j < 8 * c.bs.length
  · exact (h1.2.2 j hl).resolve_left (by omega)
  · exact getB_out _ _ (by omega)
theorem nil_ints (h : PH) (k : IntKind) : Ints h k (.slice none 0 0) [] := ⟨⟨rfl, none, 0, rfl, Nat.le_refl _, by decide, by decide, fun _ => rfl, fun j c hj => by simp at hj⟩, fun z hz => by simp at hz⟩
theorem getB_nil (i : Int) : getB [] i = false := getB_out _ _ (by simp; omega)
set_option maxRecDepth 20000 in
theorem refsign_any {c : CertD} (v : Value) (i : Int) (hc : IsCert h v c) (h1 : i ≤ 9223372036854775807) (hk : ∀ h' r, PH.le h h' → IsCert h' r (signC c i).1 → K (.tuple #[r, .int .i64 (signC c i).2]) L h') : Spec Try.prog 26 [v, .int .i64 i] L h K := by
  have hc0 := hc
  obtain ⟨sv, bv, rfl, hs, hb, r1, r2, r3, r4⟩ := hc
  have hsd := hs.word
  have hbd := hb.byte
  have os := hs.open
  obtain ⟨a, ca, rfl, _, _, _, hcx⟩ := os
  have ob := hb.open
  obtain ⟨b, cb, rfl, _⟩ := ob
  have bad : ∀ e, signC c i = (zeroC, e) → K (.tuple #[.agg #[.int .i64 0, .int .i64 0, .slice none 0 0, .slice none 0 0], .int .i64 e]) L h := fun e he => by
    have := hk h _ (PH.le_refl h) (by rw [he]; exact zeroC_is h)
    rwa [he] at this
  refine x_enter Try.func26 rfl (rs := [_, _]) rfl rfl mixed (by kernel_rfl) rfl rfl ?_
  simp -dsimp -implicitDefEqProofs (disch := first | with_reducible assumption | omega) [go_sem]
  refine xnew fun b1 n_b1 h_b1 => ?_
  try simp only [Apart] at n_b1
  simp -dsimp -implicitDefEqProofs (disch := first | with_reducible assumption | omega) [go_sem]
  refine xnew fun b2 n_b2 h_b2 => ?_
  try simp only [Apart] at n_b2
  simp -dsimp -implicitDefEqProofs (disch := first | with_reducible assumption | omega) [go_sem]
  refine right_any _ hc0 ?_
  cases hr : rightC c with
  | false =>
    simp -dsimp -implicitDefEqProofs (disch := first | with_reducible assumption | omega) [go_sem]
    exact fin_tail (fin_tail (fin_here (bad 2 (by simp [signC, hr]))))
  | true =>
    have hh := headC_facts (rightC_head hr)
    have hbl := rightC_len hr
    by_cases c1 : i < 0
    · simp -dsimp -implicitDefEqProofs (disch := first | with_reducible assumption | omega) [go_sem]
      exact fin_tail (fin_tail (fin_here (bad 190 (by simp [signC, hr, c1]))))
    by_cases c2 : c.mem ≤ i
    · simp -dsimp -implicitDefEqProofs (disch := first | with_reducible assumption | omega) [go_sem]
      exact fin_tail (fin_tail (fin_here (bad 190 (by simp [signC, hr, c2]))))
    by_cases c3 : at0 c.st i.toNat = 0
    · simp -dsimp -implicitDefEqProofs (disch := first | with_reducible assumption | omega) [go_sem, idx hcx]
      exact fin_tail (fin_tail (fin_here (bad 190 (by simp [signC, hr, c3]))))
    simp -dsimp -implicitDefEqProofs (disch := first | with_reducible assumption | omega) [go_sem, idx hcx]
    refine rget_any _ _ hb h1 ?_
    cases hg : getB c.bs i with
    | true =>
      simp -dsimp -implicitDefEqProofs (disch := first | with_reducible assumption | omega) [go_sem]
      exact fin_tail (fin_tail (fin_here (bad 231 (by simp [signC, hr, c1, c2, c3, hg]))))
    | false =>
      have es : signC c i = ({ c with bs := setB c.bs i }, 0) := by simp [signC, hr, c1, c2, c3, hg]
      rw [es] at hk
      simp -dsimp -implicitDefEqProofs (disch := first | with_reducible assumption | omega) [go_sem]
      refine Spec.ap (with_any _ _ i c.mem hb (nil_ints h .u8) (by omega) (by omega) fun h2 r cs le2 ic hl hg2 ap => ?_)
      simp only [Ap] at ap
      obtain ⟨a2, a1, _⟩ := ap
      have ecs : cs = setB c.bs i := by
        refine bits_ext ic.byte (setB_byte hbd i (by omega)) ?_ ?_
        · simp [setB]; omega
        · intro j hj
          rw [hg2 j, getB_setB hbd i (by omega) (by omega) j, getB_nil]
          by_cases hjm : (j : Int) < c.mem
          · simp [hjm]
          · have : (j : Int) ≠ i := by omega
            simp [hjm, this, right_beyond hr j (by omega)]
      subst ecs
      have oc := ic.open
      obtain ⟨x3, y3, rfl, _⟩ := oc
      simp -dsimp -implicitDefEqProofs (disch := first | with_reducible assumption | omega) [go_sem]
      exact fin_tail (fin_tail (fin_here (hk h2 _ le2 ⟨_, _, rfl, hs.up le2, ic, r1, r2, r3, r4⟩)))
end Go.X

/- Contracts of what makes certificates anew: slices.Clone, bits' own and Set, (cert.Cert).own, Sign. Conditions: the values read as certificates, lists not too long. -/
import Derived.Test.YtfilkbfkhdaakaaWH
set_option linter.unusedVariables false
set_option linter.unusedSimpArgs false
namespace Go.X
open Go.RowKit Go.Proofs Go.Bl
variable {L : Own} {h : PH} {K : PK}

theorem clone64_any {xs : List Int} (v : Value) (hx : Ints h .u64 v xs) (hl : xs.length ≤ 1000) (hk : ∀ h' r, PH.le h h' → Ints h' .u64 r xs → K r L h') : Spec Try.prog 34 [v] L h K := by
  have ox := hx.open
  obtain ⟨a, ca, rfl, hna, hca, h0, hcx⟩ := ox
  refine x_enter Try.func34 rfl (rs := [_]) rfl rfl mixed (by kernel_rfl) rfl rfl ?_
  simp -dsimp -implicitDefEqProofs (disch := first | with_reducible assumption | omega) [go_sem]
  cases ha : a.isNone with
  | true =>
    have ha' : a = none := by simpa using ha
    subst ha'
    have hl0 : xs.length = 0 := by have := h0 rfl; omega
    have hx' : xs = [] := List.eq_nil_of_length_eq_zero hl0
    subst hx'
    simp -dsimp -implicitDefEqProofs (disch := first | with_reducible assumption | omega) [go_sem]
    refine fin_here (hk h _ (PH.le_refl h) ?_)
    rw [h0 rfl] at hx
    exact hx
  | false =>
    simp -dsimp -implicitDefEqProofs (disch := first | with_reducible assumption | omega) [go_sem]
    refine xnew fun b1 n_b1 h_b1 => ?_
    try simp only [Apart] at n_b1
    simp -dsimp -implicitDefEqProofs (disch := first | with_reducible assumption | omega) [go_sem]
    refine xappend (t := 24) (e := 22) (sz := 1) (bytes := 8) (z := [.int .u64 0]) (by kernel_rfl) tI_22 rfl rfl rfl rfl (by decide) [] L (some (b1, 0)) 0 [] ⟨Nat.le_refl _, Nat.zero_le _⟩ rfl (Src.known hx.1) (by simp) (ints_one _ _) (by simp [maxLen]; omega) (by omega) ?_
    intro o' j1 j2 j3
    simp only [Nat.zero_add, List.nil_append] at j1 j2 ⊢
    simp -dsimp -implicitDefEqProofs (disch := first | with_reducible assumption | omega) [go_sem]
    exact fin_pub (n := xs.length) j1 (by simp) (by omega) j2 fun h' le sl => fin_here (hk h' _ le ⟨sl, hx.2⟩)
/-- a byte with bit j 1 -/
def orB (x : Int) (j : Nat) : Int := bits .or .u8 x (2 ^ j % 256)
theorem orB_spec (x : Int) (j : Nat) (h0 : 0 ≤ x) (h1 : x ≤ 255) (hj : j < 8) : 0 ≤ orB x j ∧ orB x j ≤ 255 ∧ ∀ k, k < 8 → (orB x j / 2 ^ k % 2 = 1 ↔ k = j ∨ x / 2 ^ k % 2 = 1) := by
  obtain ⟨n, rfl⟩ := Int.eq_ofNat_of_zero_le h0
  have hn : n < 256 := by omega
  have key : ∀ j, j < 8 → ∀ n, n < 256 → ((n ||| 2 ^ j) ≤ 255 ∧ ∀ k, k < 8 → ((n ||| 2 ^ j) / 2 ^ k % 2 = 1 ↔ k = j ∨ n / 2 ^ k % 2 = 1)) := by decide +kernel
  have h2 : (2 : Int) ^ j % 256 = ((2 ^ j : Nat) : Int) := by
    have : ∀ i, i < 8 → (2 : Int) ^ i % 256 = ((2 ^ i : Nat) : Int) := by decide
    exact this j hj
  have h3 : (2 : Nat) ^ j < 256 := by
    have : ∀ i, i < 8 → (2 : Nat) ^ i < 256 := by decide
    exact this j hj
  have e : orB n j = ((n ||| 2 ^ j : Nat) : Int) := by
    unfold orB
    rw [h2]
    exact u8_or_nat n (2 ^ j) hn h3
  obtain ⟨k1, k2⟩ := key j hj n hn
  rw [e]
  refine ⟨by omega, by omega, fun k hk => ?_⟩
  have := k2 k hk
  constructor
  · intro h
    have h' : (n ||| 2 ^ j) / 2 ^ k % 2 = 1 := by exact_mod_cast h
    rcases this.1 h' with h | h
    · exact Or.inl h
    · exact Or.inr (by exact_mod_cast h)
  · intro h
    have h' : (n ||| 2 ^ j) / 2 ^ k % 2 = 1 := this.2 (h.imp id fun h => by exact_mod_cast h)
    exact_mod_cast h'
/-- bytes with bit i 1 -/
def setB (xs : List Int) (i : Int) : List Int := xs.set (i / 8).toNat (orB (at0 xs (i / 8).toNat) (i % 8).toNat)
theorem setB_range {xs : List Int} (hx : ∀ z ∈ xs, IntKind.u8.min ≤ z ∧ z ≤ IntKind.u8.max) (hb : ∀ i, 0 ≤ at0 xs i ∧ at0 xs i ≤ 255) (i : Int) : ∀ z ∈ setB xs i, IntKind.u8.min ≤ z ∧ z ≤ IntKind.u8.max := by
  intro z hz
  rcases List.mem_or_eq_of_mem_set hz with h | h
  · exact hx z h
  · subst h
    have := orB_spec (at0 xs (i / 8).toNat) (i % 8).toNat (hb _).1 (hb _).2 (by omega)
    rw [show IntKind.u8.min = 0 by decide, show IntKind.u8.max = 255 by decide]
    exact ⟨this.1, this.2.1⟩
def zeroC : CertD := ⟨0, 0, [], []⟩
theorem zeroC_is (h : PH) : IsCert h (.agg #[.int .i64 0, .int .i64 0, .slice none 0 0, .slice none 0 0]) zeroC :=
  ⟨_, _, rfl, ⟨⟨rfl, none, 0, rfl, Nat.le_refl _, by decide, by decide, fun _ => rfl, fun j c hj => by simp [zeroC] at hj⟩, fun z hz => by simp [zeroC] at hz⟩,
    ⟨⟨rfl, none, 0, rfl, Nat.le_refl _, by decide, by decide, fun _ => rfl, fun j c hj => by simp [zeroC] at hj⟩, fun z hz => by simp [zeroC] at hz⟩, by decide, by decide, by decide, by decide⟩
/-- what Sign hands back -/
def signC (c : CertD) (i : Int) : CertD × Int :=
  if rightC c = false then (zeroC, 2) else if i < 0 ∨ c.mem ≤ i ∨ at0 c.st i.toNat = 0 then (zeroC, 190) else if getB c.bs i then (zeroC, 231) else ({ c with bs := setB c.bs i }, 0)
theorem rightC_len {c : CertD} (hr : rightC c = true) : (c.bs.length : Int) = (c.mem + 7) / 8 := by
  have := rightC_head hr
  simp only [headC, rightB, Bool.and_eq_true, decide_eq_true_eq] at this
  exact this.2.1.2.2
end Go.X

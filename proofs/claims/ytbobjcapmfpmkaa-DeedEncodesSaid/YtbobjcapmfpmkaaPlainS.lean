/- Plain facts on packed bits: bytes are told by their bits; setting a bit. Conditions: bytes of 0 to 255. -/
import Derived.Test.YtbobjcapmfpmkaaPlainA
set_option linter.unusedVariables false
set_option linter.unusedSimpArgs false
namespace Go.Bl
open Go.RowKit

def bsum (x : Nat) : Nat := (List.range 8).foldl (fun s k => s + if x / 2 ^ k % 2 = 1 then 2 ^ k else 0) 0
theorem bsum_self : ∀ x, x < 256 → bsum x = x := by decide +kernel
theorem byte_ext {x y : Int} (hx : 0 ≤ x ∧ x ≤ 255) (hy : 0 ≤ y ∧ y ≤ 255) (h : ∀ k, k < 8 → (x / 2 ^ k % 2 = 1 ↔ y / 2 ^ k % 2 = 1)) : x = y := by
  obtain ⟨n, rfl⟩ := Int.eq_ofNat_of_zero_le hx.1
  obtain ⟨m, rfl⟩ := Int.eq_ofNat_of_zero_le hy.1
  have h' : ∀ k, k < 8 → (n / 2 ^ k % 2 = 1 ↔ m / 2 ^ k % 2 = 1) := fun k hk => by
    have := h k hk
    constructor
    · intro e; exact_mod_cast this.1 (by exact_mod_cast e)
    · intro e; exact_mod_cast this.2 (by exact_mod_cast e)
  have e : bsum n = bsum m := by
    have g : ∀ (l : List Nat) (s : Nat), (∀ k ∈ l, k < 8) → l.foldl (fun s k => s + if n / 2 ^ k % 2 = 1 then 2 ^ k else 0) s = l.foldl (fun s k => s + if m / 2 ^ k % 2 = 1 then 2 ^ k else 0) s := by
      intro l
      induction l with
      | nil => intro s _; rfl
      | cons k l ih =>
        intro s hl
        simp only [List.foldl_cons]
        rw [show (if n / 2 ^ k % 2 = 1 then 2 ^ k else 0) = if m / 2 ^ k % 2 = 1 then 2 ^ k else 0 by simp only [h' k (hl k (by simp))]]
        exact ih _ fun j hj => hl j (by simp [hj])
    exact g _ _ fun k hk => List.mem_range.1 hk
  rw [bsum_self n (by omega), bsum_self m (by omega)] at e
  omega
/-- lists of bytes are told by their length and their bits -/
theorem bits_ext {xs ys : List Int} (hx : ∀ i, 0 ≤ at0 xs i ∧ at0 xs i ≤ 255) (hy : ∀ i, 0 ≤ at0 ys i ∧ at0 ys i ≤ 255) (hl : xs.length = ys.length) (h : ∀ i : Nat, i < 8 * xs.length → getB xs i = getB ys i) : xs = ys := by
  apply List.ext_getElem hl
  intro j h1 h2
  rw [at0_lt h1, at0_lt h2]
  refine byte_ext (hx j) (hy j) fun k hk => ?_
  have := h (8 * j + k) (by omega)
  rw [getB_in _ _ (by omega) (by omega), getB_in _ _ (by omega) (by omega)] at this
  have e1 : (((8 * j + k : Nat) : Int) / 8).toNat = j := by omega
  have e2 : (((8 * j + k : Nat) : Int) % 8).toNat = k := by omega
  rw [e1, e2] at this
  simpa using this
end Go.Bl

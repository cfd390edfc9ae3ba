/- Plain laws of seats: an order is a permutation of places; all seats are given, each to one that has weight; who has more weight has no fewer seats but one. Conditions: none. -/
import Derived.Test.YtfilkbfkhdaakaaTG
set_option linter.unusedVariables false
set_option linter.unusedSimpArgs false
set_option maxRecDepth 20000
namespace Go.X
open Go.RowKit Go.Proofs Go.Bl
theorem swp_perm {xs : List Int} {i j : Nat} (hi : i < xs.length) (hj : j < xs.length) : (swp xs i j).Perm xs := by
  rw [swp, ← at0_lt hi, ← at0_lt hj]
  exact List.set_set_perm hi hj
theorem ordK_perm (seed : Int) (n : Nat) : ∀ k, k + 1 ≤ n → (ordK seed n k).Perm (iota n)
  | 0, _ => .refl _
  | k + 1, hk => by
    have hp := ord_pick seed n k (by omega)
    rw [ordK]
    exact (swp_perm (by rw [ordK_len]; omega) (by rw [ordK_len]; omega)).trans (ordK_perm seed n k (by omega))
theorem ordL_perm (seed : Int) (n : Nat) : (ordL seed n).Perm (iota n) := by
  cases n with
  | zero => exact .refl _
  | succ n => exact ordK_perm _ _ _ (by omega)
theorem iota_nodup (n : Nat) : (iota n).Nodup :=
  List.pairwise_map.2 (List.nodup_range.imp fun {a b} hab e => hab (Int.ofNat.inj e))
theorem ordL_nodup (seed : Int) (n : Nat) : (ordL seed n).Nodup := (ordL_perm seed n).symm.nodup (iota_nodup n)
/-! ### parts -/
def posK (ws : List Int) : Nat → Int
  | 0 => 0
  | k + 1 => posK ws k + if 0 < at0 ws k then 1 else 0
theorem posK_nonneg (ws : List Int) : ∀ k, 0 ≤ posK ws k
  | 0 => Int.le_refl _
  | k + 1 => by
    have := posK_nonneg ws k
    rw [posK]
    split <;> omega
theorem part_low {t w x : Int} (hw : 0 < w) (hx : 0 ≤ x) : t * x ≤ w * part4 t w x + (w - 1) * (if 0 < x then 1 else 0) := by
  rw [part4, if_pos hw]
  have h1 := Int.mul_ediv_add_emod (t * x) w
  have h2 := Int.emod_lt_of_pos (t * x) hw
  split
  · rw [Int.mul_one]; omega
  · have : x = 0 := by omega
    subst this
    simp
theorem sum_low {t w : Int} {ws : List Int} (hw : 0 < w) (h0 : ∀ i, 0 ≤ at0 ws i) : ∀ k, k ≤ ws.length → t * sumK ws k ≤ w * sumK (splitL t w ws) k + (w - 1) * posK ws k
  | 0, _ => by simp [sumK, posK]
  | k + 1, hk => by
    have ih := sum_low (t := t) hw h0 k (by omega)
    have h1 := part_low (t := t) hw (h0 k)
    rw [sumK, sumK, posK, splitL, at0_mapI _ ws (show k < ws.length by omega), Int.mul_add, Int.mul_add, Int.mul_add]
    rw [splitL] at ih
    omega
theorem left_le {t : Int} {ws : List Int} (hw : 0 < tot ws) (h0 : ∀ i, 0 ≤ at0 ws i) : t - tot (splitL t (tot ws) ws) ≤ posK ws ws.length := by
  have h1 := sum_low (t := t) hw h0 ws.length (Nat.le_refl _)
  have h2 : tot (splitL t (tot ws) ws) = sumK (splitL t (tot ws) ws) ws.length := by rw [tot]; simp [splitL]
  rw [← h2, show sumK ws ws.length = tot ws from rfl] at h1
  have h3 := posK_nonneg ws ws.length
  refine Int.not_lt.1 fun c => ?_
  have h4 : tot ws * (posK ws ws.length + 1) ≤ tot ws * (t - tot (splitL t (tot ws) ws)) := Int.mul_le_mul_of_nonneg_left (by omega) (by omega)
  rw [Int.mul_add, Int.mul_sub, Int.mul_one] at h4
  rw [Int.sub_mul, Int.one_mul, Int.mul_comm t] at h1
  omega
theorem spr_left {t : Int} {ws : List Int} (hl : 0 ≤ t - tot (splitL t (tot ws) ws)) : ∀ k, (sprK t ws k).2 = max 0 (t - tot (splitL t (tot ws) ws) - posK ws k)
  | 0 => by simp only [sprK, posK]; omega
  | k + 1 => by
    have ih := spr_left hl k
    have hp := posK_nonneg ws k
    rw [sprK, posK]
    by_cases c1 : 0 < at0 ws k
    · by_cases c2 : 0 < (sprK t ws k).2
      · rw [if_pos ⟨c1, c2⟩, if_pos c1]
        show (sprK t ws k).2 - 1 = _
        omega
      · rw [if_neg (fun c => c2 c.2), if_pos c1]
        omega
    · rw [if_neg (fun c => c1 c.1), if_neg c1]
      omega
theorem spL_len {t : Int} {ws : List Int} (ht : 0 ≤ t) (h0 : ∀ i, 0 ≤ at0 ws i) : (spL t ws).length = ws.length := (spr_ok ht h0 ws.length (Nat.le_refl _)).len
theorem spL_tot {t : Int} {ws : List Int} (ht : 0 ≤ t) (hw : 0 < tot ws) (h0 : ∀ i, 0 ≤ at0 ws i) : tot (spL t ws) = t := by
  have o := spr_ok ht h0 ws.length (Nat.le_refl _)
  have o0 := spr_ok ht h0 0 (Nat.zero_le _)
  have hl : 0 ≤ t - tot (splitL t (tot ws) ws) := o0.left
  have h1 := spr_left hl ws.length
  have h2 := left_le (t := t) hw h0
  have h3 := o.sum
  rw [spL]
  omega
theorem spr_at {t : Int} {ws : List Int} (ht : 0 ≤ t) (h0 : ∀ i, 0 ≤ at0 ws i) : ∀ k, k ≤ ws.length → ∀ i, at0 (sprK t ws k).1 i = at0 (splitL t (tot ws) ws) i + (if i < k ∧ 0 < at0 ws i ∧ 0 < (sprK t ws i).2 then 1 else 0)
  | 0, _, i => by simp [sprK]
  | k + 1, hk, i => by
    have ih := spr_at ht h0 k (by omega) i
    have hl := (spr_ok ht h0 k (by omega)).len
    by_cases c : 0 < at0 ws k ∧ 0 < (sprK t ws k).2
    · have e : sprK t ws (k + 1) = ((sprK t ws k).1.set k (at0 (sprK t ws k).1 k + 1), (sprK t ws k).2 - 1) := by rw [sprK, if_pos c]
      rw [e]
      show at0 ((sprK t ws k).1.set k _) i = _
      by_cases ci : i = k
      · subst ci
        rw [at0_self _ _ (by omega), ih, if_neg (by omega), if_pos ⟨by omega, c.1, c.2⟩]
        omega
      · rw [at0_ne _ _ ci, ih]
        by_cases c2 : i < k
        · by_cases c3 : 0 < at0 ws i ∧ 0 < (sprK t ws i).2
          · rw [if_pos ⟨c2, c3⟩, if_pos ⟨by omega, c3⟩]
          · rw [if_neg (fun x => c3 x.2), if_neg (fun x => c3 x.2)]
        · rw [if_neg (fun x => c2 x.1), if_neg (fun x => by omega)]
    · have e : sprK t ws (k + 1) = sprK t ws k := by rw [sprK, if_neg c]
      rw [e, ih]
      by_cases ci : i = k
      · subst ci
        rw [if_neg (fun x => by omega), if_neg (fun x => c x.2)]
      · by_cases c2 : i < k
        · by_cases c3 : 0 < at0 ws i ∧ 0 < (sprK t ws i).2
          · rw [if_pos ⟨c2, c3⟩, if_pos ⟨by omega, c3⟩]
          · rw [if_neg (fun x => c3 x.2), if_neg (fun x => c3 x.2)]
        · rw [if_neg (fun x => c2 x.1), if_neg (fun x => by omega)]
theorem spL_at {t : Int} {ws : List Int} (ht : 0 ≤ t) (h0 : ∀ i, 0 ≤ at0 ws i) {i : Nat} (hi : i < ws.length) : at0 (spL t ws) i = part4 t (tot ws) (at0 ws i) + (if 0 < at0 ws i ∧ 0 < (sprK t ws i).2 then 1 else 0) := by
  rw [spL, spr_at ht h0 ws.length (Nat.le_refl _), splitL, at0_mapI _ ws hi]
  by_cases c3 : 0 < at0 ws i ∧ 0 < (sprK t ws i).2
  · rw [if_pos ⟨hi, c3⟩, if_pos c3]
  · rw [if_neg (fun x => c3 x.2), if_neg c3]
theorem spL_nonneg {t : Int} {ws : List Int} (ht : 0 ≤ t) (h0 : ∀ i, 0 ≤ at0 ws i) (i : Nat) : 0 ≤ at0 (spL t ws) i := (spr_ok ht h0 ws.length (Nat.le_refl _)).pos i
theorem spL_zero {t : Int} {ws : List Int} (ht : 0 ≤ t) (h0 : ∀ i, 0 ≤ at0 ws i) {i : Nat} (hz : at0 ws i = 0) : at0 (spL t ws) i = 0 := by
  by_cases hi : i < ws.length
  · rw [spL_at ht h0 hi, hz, if_neg (fun x => by omega), part4]
    simp
  · exact at0_ge (by rw [spL_len ht h0]; omega)
/-- who has no less weight has no fewer seats but one -/
theorem spL_fair {t : Int} {ws : List Int} (ht : 0 ≤ t) (h0 : ∀ i, 0 ≤ at0 ws i) {a b : Nat} (ha : a < ws.length) (hb : b < ws.length) (hab : at0 ws b ≤ at0 ws a) : at0 (spL t ws) b - 1 ≤ at0 (spL t ws) a := by
  rw [spL_at ht h0 ha, spL_at ht h0 hb]
  have h1 : part4 t (tot ws) (at0 ws b) ≤ part4 t (tot ws) (at0 ws a) := by
    unfold part4
    split
    · rename_i c
      exact Int.ediv_le_ediv c (Int.mul_le_mul_of_nonneg_left hab ht)
    · exact Int.le_refl _
  split <;> split <;> omega
/-! ### who sits -/
def whoK (gs : List Int) : Nat → List Int
  | 0 => []
  | k + 1 => whoK gs k ++ List.replicate (at0 gs k).toNat (k : Int)
def whoL (gs : List Int) : List Int := whoK gs gs.length
theorem whoK_len {gs : List Int} (h0 : ∀ i, 0 ≤ at0 gs i) : ∀ k, ((whoK gs k).length : Int) = sumK gs k
  | 0 => rfl
  | k + 1 => by
    have ih := whoK_len h0 k
    have := h0 k
    rw [whoK, sumK, List.length_append, List.length_replicate]
    omega
theorem whoK_mem {gs : List Int} {x : Int} : ∀ k, x ∈ whoK gs k → ∃ j : Nat, x = j ∧ j < k ∧ 0 < at0 gs j
  | 0, h => by cases h
  | k + 1, h => by
    rw [whoK] at h
    rcases List.mem_append.1 h with h | h
    · obtain ⟨j, a, b, c⟩ := whoK_mem k h
      exact ⟨j, a, by omega, c⟩
    · obtain ⟨h1, h2⟩ := List.mem_replicate.1 h
      exact ⟨k, h2, by omega, by omega⟩
theorem whoK_count {gs : List Int} (j : Nat) : ∀ k, (whoK gs k).count (j : Int) = if j < k then (at0 gs j).toNat else 0
  | 0 => rfl
  | k + 1 => by
    rw [whoK, List.count_append, whoK_count j k, List.count_replicate]
    by_cases c : j < k
    · rw [if_pos c, if_pos (show j < k + 1 by omega), if_neg (show ¬ (((k : Int) == (j : Int)) = true) by rw [beq_iff_eq]; omega)]
      omega
    · by_cases c2 : k = j
      · subst c2
        rw [if_neg c, if_pos (show k < k + 1 by omega), if_pos (show ((k : Int) == (k : Int)) = true by simp)]
        omega
      · rw [if_neg c, if_neg (show ¬ j < k + 1 by omega), if_neg (show ¬ (((k : Int) == (j : Int)) = true) by rw [beq_iff_eq]; omega)]
def sitL (seed : Int) (gs : List Int) : List Int := (ordL seed (whoL gs).length).map fun i => at0 (whoL gs) i.toNat
theorem sitL_len (seed : Int) (gs : List Int) : (sitL seed gs).length = (whoL gs).length := by rw [sitL, List.length_map, ordL_len]
theorem iota_map (xs : List Int) : (iota xs.length).map (fun i => at0 xs i.toNat) = xs := by
  refine at0_ext (by simp [iota]) fun j hj => ?_
  have hj' : j < (iota xs.length).length := by simpa using hj
  rw [at0_mapI _ _ hj', iota_at (by simpa [iota] using hj)]
  rfl
theorem sitL_perm (seed : Int) (gs : List Int) : (sitL seed gs).Perm (whoL gs) := by
  have := (ordL_perm seed (whoL gs).length).map fun i => at0 (whoL gs) i.toNat
  rwa [iota_map] at this
theorem sitL_at (seed : Int) (gs : List Int) {i : Nat} (hi : i < (whoL gs).length) : at0 (sitL seed gs) i = at0 (whoL gs) (at0 (ordL seed (whoL gs).length) i).toNat := by
  rw [sitL, at0_mapI _ _ (by rw [ordL_len]; exact hi)]
theorem sitL_mem {seed : Int} {gs : List Int} {x : Int} (hx : x ∈ sitL seed gs) : ∃ j : Nat, x = j ∧ j < gs.length ∧ 0 < at0 gs j := whoK_mem _ ((sitL_perm seed gs).mem_iff.1 hx)
theorem sitL_count (seed : Int) (gs : List Int) {j : Nat} (hj : j < gs.length) : (sitL seed gs).count (j : Int) = (at0 gs j).toNat := by
  rw [(sitL_perm seed gs).count_eq, whoL, whoK_count, if_pos hj]
end Go.X

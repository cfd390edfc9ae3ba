/- Contract of share.Spread. Conditions: the weights read as numbers; no product of the whole and a weight is beyond 64 bits. -/
import Derived.Test.YtfilkbfkhdaakaaTD
set_option linter.unusedVariables false
set_option linter.unusedSimpArgs false
set_option maxRecDepth 20000
namespace Go.X
open Go.RowKit Go.Proofs Go.Bl
variable {L : Own} {h : PH} {K : PK}
/-- the parts and what is left, behind so many rounds -/
def sprK (t : Int) (ws : List Int) : Nat → List Int × Int
  | 0 => (splitL t (tot ws) ws, t - tot (splitL t (tot ws) ws))
  | k + 1 => if 0 < at0 ws k ∧ 0 < (sprK t ws k).2 then ((sprK t ws k).1.set k (at0 (sprK t ws k).1 k + 1), (sprK t ws k).2 - 1) else sprK t ws k
def spL (t : Int) (ws : List Int) : List Int := (sprK t ws ws.length).1
def spE (ws : List Int) : Int := if whoE ws = 0 then (if tot ws = 0 then 20 else 0) else whoE ws
theorem at0_self (xs : List Int) {i : Nat} (v : Int) (hi : i < xs.length) : at0 (xs.set i v) i = v := by rw [at0_set _ _ _ _ hi, if_pos rfl]
theorem at0_ne (xs : List Int) {i j : Nat} (v : Int) (hij : j ≠ i) : at0 (xs.set i v) j = at0 xs j := by
  by_cases hi : i < xs.length
  · rw [at0_set _ _ _ _ hi, if_neg (fun e => hij e)]
  · rw [List.set_eq_of_length_le (by omega)]
theorem sumK_set_lt {xs : List Int} {i : Nat} {v : Int} : ∀ k, k ≤ i → sumK (xs.set i v) k = sumK xs k
  | 0, _ => rfl
  | k + 1, hk => by rw [sumK, sumK, sumK_set_lt k (by omega), at0_ne xs v (show k ≠ i by omega)]
theorem sumK_set_ge {xs : List Int} {i : Nat} {v : Int} (hi : i < xs.length) : ∀ k, i < k → sumK (xs.set i v) k = sumK xs k + (v - at0 xs i)
  | k + 1, hk => by
    rw [sumK, sumK]
    by_cases c : k = i
    · subst c
      rw [sumK_set_lt k (Nat.le_refl _), at0_self xs v hi]
      omega
    · rw [sumK_set_ge hi k (by omega), at0_ne xs v (by omega : k ≠ i)]
      omega
theorem tot_set {xs : List Int} {i : Nat} {v : Int} (hi : i < xs.length) : tot (xs.set i v) = tot xs + (v - at0 xs i) := by
  rw [tot, List.length_set, sumK_set_ge hi _ hi]; rfl
theorem sumK_at {xs : List Int} (h0 : ∀ i, 0 ≤ at0 xs i) (i : Nat) : ∀ k, i < k → at0 xs i ≤ sumK xs k
  | k + 1, hk => by
    rw [sumK]
    have := h0 k
    by_cases c : k = i
    · subst c; have := sumK_nonneg h0 k; omega
    · have := sumK_at h0 i k (by omega); omega
theorem at0_le_tot {xs : List Int} (h0 : ∀ i, 0 ≤ at0 xs i) (i : Nat) : at0 xs i ≤ tot xs := by
  by_cases c : i < xs.length
  · exact sumK_at h0 i _ c
  · rw [at0_ge (by omega)]; exact sumK_nonneg h0 _
theorem split_at {t w : Int} {ws : List Int} (ht : 0 ≤ t) (hw : 0 ≤ w) (h0 : ∀ i, 0 ≤ at0 ws i) (i : Nat) : 0 ≤ at0 (splitL t w ws) i := by
  by_cases c : i < ws.length
  · rw [splitL, at0_mapI _ ws c]
    rcases part4_ok (w := w) ht (h0 i) with ⟨g, _⟩ | g
    · exact g
    · exact absurd hw g
  · rw [at0_ge (by simpa [splitL] using c)]; exact Int.le_refl _
structure SprOk (t : Int) (ws xs : List Int) (r : Int) : Prop where
  len : xs.length = ws.length
  pos : ∀ i, 0 ≤ at0 xs i
  sum : tot xs + r = t
  left : 0 ≤ r
theorem spr_ok {t : Int} {ws : List Int} (ht : 0 ≤ t) (h0 : ∀ i, 0 ≤ at0 ws i) : ∀ k, k ≤ ws.length → SprOk t ws (sprK t ws k).1 (sprK t ws k).2
  | 0, _ => by
    have hl : (splitL t (tot ws) ws).length = ws.length := by simp [splitL]
    have h1 := split_le (t := t) ht h0 (Nat.le_refl ws.length)
    have h2 : tot (splitL t (tot ws) ws) = sumK (splitL t (tot ws) ws) ws.length := by rw [← hl]; rfl
    exact ⟨hl, split_at ht (tot_nonneg h0) h0, by simp only [sprK]; omega, by simp only [sprK]; omega⟩
  | k + 1, hk => by
    have ih := spr_ok (t := t) ht h0 k (by omega)
    rw [sprK]
    split
    · rename_i c
      have hx := ih.pos k
      have hs := ih.sum
      refine ⟨by rw [List.length_set]; exact ih.len, fun i => ?_, ?_, by show 0 ≤ _ - 1; omega⟩
      · by_cases ci : i = k
        · subst ci; rw [at0_self _ _ (by rw [ih.len]; omega)]; omega
        · rw [at0_ne _ _ ci]; exact ih.pos i
      · show tot _ + (_ - 1) = t
        rw [tot_set (by rw [ih.len]; omega)]; omega
    · exact ih
theorem SprOk.at {t r : Int} {ws xs : List Int} (o : SprOk t ws xs r) (i : Nat) : 0 ≤ at0 xs i ∧ at0 xs i + r ≤ t := by
  have h1 := at0_le_tot o.pos i
  have h2 := o.sum
  exact ⟨o.pos i, by omega⟩
theorem spr_stop {t : Int} {ws : List Int} {k : Nat} (hr : (sprK t ws k).2 = 0) : ∀ j, k ≤ j → sprK t ws j = sprK t ws k
  | 0, hj => by rw [show k = 0 by omega]
  | j + 1, hj => by
    by_cases c : k = j + 1
    · rw [c]
    · have ih := spr_stop hr j (by omega)
      rw [sprK, if_neg (by rw [ih]; omega), ih]
theorem spread_any {ws : List Int} (t : Int) (ht : 0 ≤ t ∧ t ≤ 18446744073709551615) (hsm : ∀ x ∈ ws, t * x ≤ 18446744073709551615) (wv : Value) (hws : Ints h .u64 wv ws)
    (hk1 : spE ws ≠ 0 → K (.tuple #[.slice none 0 0, .int .i64 (spE ws)]) L h)
    (hk2 : spE ws = 0 → ∀ o, okO o ws.length → apO o L h → K (.tuple #[ovs o ws.length, .int .i64 0]) (oent 22 1 o ((spL t ws).map (.int .u64)) L) h) :
    Spec Try.prog 32 [.int .u64 t, wv] L h K := by
  have hws0 := hws
  have hwd := hws.word
  obtain ⟨wa, wc, rfl, _, hwl, _, hcs0⟩ := hws.open
  have h0 : ∀ i, 0 ≤ at0 ws i := fun i => (hwd i).1
  refine x_enter Try.func32 rfl (rs := [_, _]) rfl rfl mixed (by kernel_rfl) rfl rfl ?_
  simp -dsimp -implicitDefEqProofs (disch := first | with_reducible assumption | omega) [go_sem]
  refine split_any t ht hsm _ hws0 (fun c => ?_) fun c o ho ao => ?_
  · have e : spE ws = whoE ws := by rw [spE, if_neg c]
    have h1 := hk1 (by rw [e]; exact c)
    rw [e] at h1
    simp -dsimp -implicitDefEqProofs (disch := first | with_reducible assumption | omega) [go_sem]
    exact fin_here h1
  · obtain ⟨xa, xc, e, hxy⟩ := ovs_open ho
    rw [e]
    simp -dsimp -implicitDefEqProofs (disch := first | with_reducible assumption | omega) [go_sem]
    refine shWhole_any _ hws0 ?_
    have hN : whoN ws = tot ws := by rw [whoN, if_pos c]
    rw [c, hN]
    by_cases c2 : tot ws = 0
    · have e2 : spE ws = 20 := by rw [spE, if_pos c, if_pos c2]
      have h1 := hk1 (by rw [e2]; decide)
      rw [e2] at h1
      rw [c2]
      simp -dsimp -implicitDefEqProofs (disch := first | with_reducible assumption | omega) [go_sem]
      exact fin_oent (fin_here h1)
    · have e2 : spE ws = 0 := by rw [spE, if_pos c, if_neg c2]
      have h2 := hk2 e2 o ho ao
      rw [e] at h2
      have hlen : ws.length ≤ 256 := by
        unfold whoE at c
        split at c
        · assumption
        · cases c
      obtain ⟨b, cap, rfl⟩ : ∃ b cap, o = some (b, cap) := by
        cases o with
        | none =>
          have hz : ws.length = 0 := ho
          exact absurd (by rw [List.length_eq_zero_iff.mp hz]; rfl) c2
        | some p => exact ⟨_, _, rfl⟩
      have hb : h b = noC := ao.2
      simp only [ovs, Value.slice.injEq] at e
      obtain ⟨rfl, _, rfl⟩ := e
      simp only [oent, Nat.mul_one] at h2 ⊢
      simp -dsimp -implicitDefEqProofs (disch := first | with_reducible assumption | omega) [go_sem]
      refine xloop (γ := Nat) 0 (fun k => k ≤ ws.length)
        (fun k => [(32, .int .i64 k), (31, .int .i64 ws.length), (30, .slice wa ws.length wc), (6, .slice (some ⟨b, 0, none⟩) ws.length cap), (7, .int .u64 (sprK t ws k).2)])
        (fun k => ⟨b, 22, (sprK t ws k).1.map (.int .u64), cap⟩ :: L) (fun _ => h) (fun k => ws.length - k) ?_ ?_ ?_ ?_
      · exact Nat.zero_le _
      · simp [Ent, List.lookup, sprK]
      · exact Drop.refl _ _
      intro k hk
      have oo := spr_ok ht.1 h0 k hk
      have hol := oo.len
      have hoa := oo.at k
      have hor := oo.left
      by_cases c1 : k < ws.length
      · have hxw := hwd k
        by_cases c3 : 0 < at0 ws k ∧ 0 < (sprK t ws k).2
        · have es : sprK t ws (k + 1) = ((sprK t ws k).1.set k (at0 (sprK t ws k).1 k + 1), (sprK t ws k).2 - 1) := by rw [sprK, if_pos c3]
          obtain ⟨c4, c5⟩ := c3
          simp -dsimp -implicitDefEqProofs (disch := first | with_reducible assumption | omega) [go_sem, idx hcs0, xNth_ints]
          refine ⟨by omega, k + 1, by omega, by omega, by simp [Ent, List.lookup, es], ?_⟩
          rw [es, List.map_set]; exact Drop.refl _ _
        · have es : sprK t ws (k + 1) = sprK t ws k := by rw [sprK, if_neg c3]
          by_cases c4 : 0 < at0 ws k
          · have c5 : ¬ 0 < (sprK t ws k).2 := fun c5 => c3 ⟨c4, c5⟩
            simp -dsimp -implicitDefEqProofs (disch := first | with_reducible assumption | omega) [go_sem, idx hcs0]
            exact ⟨k + 1, by omega, by omega, by simp [Ent, List.lookup, es], by rw [es]; exact Drop.refl _ _⟩
          · simp -dsimp -implicitDefEqProofs (disch := first | with_reducible assumption | omega) [go_sem, idx hcs0]
            exact ⟨k + 1, by omega, by omega, by simp [Ent, List.lookup, es], by rw [es]; exact Drop.refl _ _⟩
      · have hkl : k = ws.length := by omega
        subst hkl
        simp -dsimp -implicitDefEqProofs (disch := first | with_reducible assumption | omega) [go_sem]
        exact fin_here h2
end Go.X

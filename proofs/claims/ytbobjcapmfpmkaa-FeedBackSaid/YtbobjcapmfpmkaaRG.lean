/- Contracts for the law FeedBack: few, all, Missing. Conditions: as each says. -/
import Derived.Test.YtbobjcapmfpmkaaRF
import Derived.Test.YtbobjcapmfpmkaaPlainH
set_option linter.unusedVariables false
set_option linter.unusedSimpArgs false
namespace Go.X
open Go.RowKit Go.Proofs Go.Bl
variable {L : Own} {h : PH} {K : PK}
theorem mem_gs {q : List QS} {p : List Int → Prop} (hp : ∀ j, j < q.length → p (gs q j).2) : ∀ x ∈ xsL q, p x := by
  intro x hx
  obtain ⟨e, he, rfl⟩ := List.mem_map.1 hx
  obtain ⟨i, hi, rfl⟩ := List.getElem_of_mem he
  have := hp i hi
  rwa [gs_lt hi] at this
set_option maxHeartbeats 1600000 in
set_option maxRecDepth 20000 in
theorem few37_any {q : List QS} (v : Value) (hq0 : Strs h v q) (hk : ∀ h' b, PH.le h h' → (b = true → (∀ x ∈ xsL q, x.length ≤ 5000) ∧ q.length ≤ 60) → K (.bool b) L h') : Spec Try.prog 36 [v] L h K := by
  obtain ⟨a, c, rfl, hc, hl, _, hcx, hq⟩ := hq0.open
  refine x_enter Try.func36 rfl (rs := [_]) rfl rfl mixed (by kernel_rfl) rfl rfl ?_
  simp -dsimp -implicitDefEqProofs (disch := first | with_reducible assumption | omega) [go_sem]
  refine xloop (γ := Nat × PH) (0, h) (fun s => s.1 ≤ q.length ∧ PH.le h s.2 ∧ ∀ j, j < s.1 → (gs q j).2.length ≤ 5000) (fun s => [(9, .int .i64 s.1), (8, .int .i64 q.length), (7, .slice a q.length c), (0, .slice a q.length c)])
    (fun _ => L) (fun s => s.2) (fun s => q.length - s.1) ?_ ?_ ?_ ?_
  · exact ⟨Nat.zero_le _, PH.le_refl _, fun j hj => by omega⟩
  · simp [Ent, List.lookup, xEnv]
  · exact Drop.refl _ _
  rintro ⟨k, hh⟩ ⟨i1, i2, i3⟩
  simp only at i1 i2 i3 ⊢
  have hcx' : ∀ j, j < q.length → elemCell hh a j = some ((fun j => (gs q j).1) j) := fun j hj => elemCell_up i2 (hcx j hj)
  by_cases c1 : k < q.length
  · have hx := (hq.up i2).at c1
    have hx0 := hx
    have ox := hx.open
    obtain ⟨x1, y1, hv, _⟩ := ox
    rw [hv] at hx0
    by_cases c2 : ((gs q k).2.length : Int) > 5000
    · simp -dsimp -implicitDefEqProofs (disch := first | with_reducible assumption | omega) [go_sem, idx hcx', hv]
      exact fin_here (hk hh false i2 (fun h => by cases h))
    simp -dsimp -implicitDefEqProofs (disch := first | with_reducible assumption | omega) [go_sem, idx hcx', hv]
    refine rparse_any _ hx0 (by omega) fun h2 dv le2 hd2 => ?_
    obtain ⟨ch, e, hp⟩ : ∃ ch e, parseC (gs q k).2 = (ch, e) := ⟨_, _, rfl⟩
    rw [hp] at hd2 ⊢
    simp only at hd2 ⊢
    have od := hd2.open
    obtain ⟨x2, y2, rfl, _⟩ := od
    simp -dsimp -implicitDefEqProofs (disch := first | with_reducible assumption | omega) [go_sem]
    refine xnew fun b5 n_b5 h_b5 => ?_
    try simp only [Apart] at n_b5
    simp -dsimp -implicitDefEqProofs (disch := first | with_reducible assumption | omega) [go_sem]
    by_cases c3 : e = 0
    · by_cases c4 : ch.all > 2000
      · simp -dsimp -implicitDefEqProofs (disch := first | with_reducible assumption | omega) [go_sem]
        exact fin_tail (fin_here (hk h2 false (i2.trans le2) (fun h => by cases h)))
      · simp -dsimp -implicitDefEqProofs (disch := first | with_reducible assumption | omega) [go_sem]
        refine ⟨k + 1, h2, ⟨by omega, i2.trans le2, fun j hj => ?_⟩, by omega, by simp [Ent, List.lookup], Drop.tail _ _ _⟩
        by_cases ej : j = k
        · subst ej; omega
        · exact i3 j (by omega)
    · simp -dsimp -implicitDefEqProofs (disch := first | with_reducible assumption | omega) [go_sem]
      refine ⟨k + 1, h2, ⟨by omega, i2.trans le2, fun j hj => ?_⟩, by omega, by simp [Ent, List.lookup], Drop.tail _ _ _⟩
      by_cases ej : j = k
      · subst ej; omega
      · exact i3 j (by omega)
  · simp -dsimp -implicitDefEqProofs (disch := first | with_reducible assumption | omega) [go_sem]
    refine fin_here (hk hh _ i2 fun hb => ⟨mem_gs fun j hj => i3 j (by omega), Int.ofNat_le.1 (by simpa using hb)⟩)
set_option maxRecDepth 20000 in
theorem all37_any (n : Nat) (hn : n ≤ 100000) (hk : ∀ o, okO o n → K (ovs o n) (oent 3 1 o ((List.range n).map fun i : Nat => Value.int .i64 i) L) h) : Spec Try.prog 39 [.int .i64 n] L h K := by
  refine x_enter Try.func39 rfl (rs := [_]) rfl rfl mixed (by kernel_rfl) rfl rfl ?_
  simp -dsimp -implicitDefEqProofs (disch := first | with_reducible assumption | omega) [go_sem]
  refine xloop (γ := Nat × Option (Nat × Nat)) (0, none) (fun s => s.1 ≤ n ∧ okO s.2 s.1) (fun s => [(6, .int .i64 s.1), (5, .int .i64 n), (3, ovs s.2 s.1)])
    (fun s => oent 3 1 s.2 ((List.range s.1).map fun i : Nat => Value.int .i64 i) L) (fun _ => h) (fun s => n - s.1) ?_ ?_ ?_ ?_
  · exact ⟨Nat.zero_le _, rfl⟩
  · simp [Ent, List.lookup, xEnv, ovs]
  · exact Drop.refl _ _
  rintro ⟨k, o⟩ ⟨i1, i2⟩
  simp only at i1 i2 ⊢
  by_cases c1 : k < n
  · simp -dsimp -implicitDefEqProofs (disch := first | with_reducible assumption | omega) [go_sem]
    refine xnew fun b9 n_b9 h_b9 => ?_
    try simp only [Apart] at n_b9
    simp -dsimp -implicitDefEqProofs (disch := first | with_reducible assumption | omega) [go_sem]
    refine xappend (t := 59) (e := 3) (sz := 1) (bytes := 8) (z := [.int .i64 0]) (by kernel_rfl) tI_3 rfl rfl rfl rfl (by decide) [_] _ o k _ i2 (by simp) (Src.own List.mem_cons_self) (m := 1) (news := [.int .i64 k]) rfl (fun u hu => by simp at hu; subst hu; rfl) (by simp [maxLen]; omega) (by omega) ?_
    intro o' j1 j2 j3
    simp -dsimp -implicitDefEqProofs (disch := first | with_reducible assumption | omega) [go_sem]
    refine ⟨k + 1, o', ⟨by omega, j1⟩, by omega, by simp [Ent, List.lookup], ?_⟩
    simp only [List.range_succ, List.map_append, List.map_cons, List.map_nil]
    exact Drop.tail _ _ _
  · have hkl : k = n := by omega
    subst hkl
    simp -dsimp -implicitDefEqProofs (disch := first | with_reducible assumption | omega) [go_sem]
    exact fin_here (hk o i2)
set_option maxHeartbeats 1600000 in
set_option maxRecDepth 20000 in
theorem imissing_all {bi bm : Nat} {s : InS} (ha : 0 ≤ s.all ∧ s.all ≤ 131072) (hall : ∀ i : Nat, (i : Int) < s.all → (getT s.ts i).isSome = true) (hk : K (.slice none 0 0) (iO bi bm s L) h) : Spec Try.prog 43 [.pointer (some ⟨bi, 0, none⟩)] (iO bi bm s L) h K := by
  refine x_enterA Try.func43 rfl (rs := [_]) rfl rfl mixed (by kernel_rfl) rfl rfl fun ap nd => ?_
  obtain ⟨ap1, ap2, _⟩ := ap
  simp -dsimp -implicitDefEqProofs (disch := first | with_reducible assumption | omega) [go_sem]
  refine iis_any ?_
  obtain ⟨aN, haN⟩ := Int.eq_ofNat_of_zero_le ha.1
  rw [haN] at hall
  simp -dsimp -implicitDefEqProofs (disch := first | with_reducible assumption | omega) [go_sem]
  rw [haN]
  refine xloop' (0 : Nat) (fun k => k ≤ aN) (fun k => [(14, .int .i64 k), (13, .int .i64 aN), (3, .slice none 0 0), (0, .pointer (some ⟨bi, 0, none⟩))]) (fun k => aN - k) ?_ ?_ ?_
  · exact Nat.zero_le _
  · simp [Ent, List.lookup, xEnv]
  rintro k k1
  by_cases c1 : k < aN
  · have hg := hall k (by omega)
    obtain ⟨q, hq⟩ := Option.isSome_iff_exists.1 hg
    simp -dsimp -implicitDefEqProofs (disch := first | with_reducible assumption | omega) [go_sem]
    refine xlookup_i mapU intU zeroRow (esT s.ts) (List.mem_cons_of_mem _ List.mem_cons_self) ?_
    rw [getI_esT, hq]
    simp only [Option.map_some, Option.getD_some, Option.isSome_some, if_true]
    simp -dsimp -implicitDefEqProofs (disch := first | with_reducible assumption | omega) [go_sem]
    exact ⟨k + 1, by omega, by omega, by simp [Ent, List.lookup], Drop.refl _ _⟩
  · simp -dsimp -implicitDefEqProofs (disch := first | with_reducible assumption | omega) [go_sem]
    exact fin_here hk
end Go.X

/- Contracts of package money, of purse.All, pool.Sum, and of package supply up to Holds. Conditions: the values read as lists of numbers, or as a state. -/
import Derived.Test.YtfilkbfkhdaakaaGreatSS
import Derived.Laws.Externs
set_option linter.unusedVariables false
set_option linter.unusedSimpArgs false
namespace Go.X
open Go.RowKit Go.Proofs Go.Bl
variable {L : Own} {h : PH} {K : PK}
/-- the first k of a list together -/
def sumK (zs : List Int) : Nat → Int
  | 0 => 0
  | k + 1 => sumK zs k + at0 zs k
def tot (zs : List Int) : Int := sumK zs zs.length
theorem sumK_mono {zs : List Int} (h0 : ∀ i, 0 ≤ at0 zs i) : ∀ {k m : Nat}, k ≤ m → sumK zs k ≤ sumK zs m := fun {k m} hkm => by
  induction m with
  | zero => have : k = 0 := by omega
            subst this; exact Int.le_refl _
  | succ m ih =>
    by_cases e : k = m + 1
    · subst e; exact Int.le_refl _
    · have := ih (by omega)
      have := h0 m
      simp only [sumK]; omega
theorem sumK_nonneg {zs : List Int} (h0 : ∀ i, 0 ≤ at0 zs i) (k : Nat) : 0 ≤ sumK zs k := by
  have := sumK_mono h0 (Nat.zero_le k)
  simpa [sumK] using this
def sumV (n : Int) : Value := if n ≤ 18446744073709551615 then .tuple #[.int .u64 n, .int .i64 0] else .tuple #[.int .u64 0, .int .i64 10]
theorem sumV_ok {n : Int} (c : n ≤ 18446744073709551615) : sumV n = .tuple #[.int .u64 n, .int .i64 0] := by simp [sumV, c]
theorem sumV_no {n : Int} (c : ¬ n ≤ 18446744073709551615) : sumV n = .tuple #[.int .u64 0, .int .i64 10] := by simp [sumV, c]
theorem add64_any (x y : Int) (hx : 0 ≤ x) (hy : 0 ≤ y) (hk : K (.tuple #[.int .u64 ((x + y) % 18446744073709551616), .int .u64 ((x + y) / 18446744073709551616)]) L h) : Spec Tryz.prog 226 [.int .u64 x, .int .u64 y, .int .u64 0] L h K :=
  Spec.extern (fun W => by
    show (callFunc 226 #[.int .u64 x, .int .u64 y, .int .u64 0]).run Tryz.prog W = _
    rw [run_callFunc_extern Tryz.func226 (by kernel_rfl) (by kernel_rfl) (by kernel_rfl) (e := add64Entry) (by kernel_rfl), run_add64 x y 0 hx hy (by decide) (by decide), Int.add_zero]
    rfl) hk
theorem madd_any (x y : Int) (hx : 0 ≤ x ∧ x ≤ 18446744073709551615) (hy : 0 ≤ y ∧ y ≤ 18446744073709551615) (hk : K (sumV (x + y)) L h) : Spec Tryz.prog 147 [.int .u64 x, .int .u64 y] L h K := by
  refine x_enter Tryz.func147 rfl (rs := [_, _]) rfl rfl mixed (by kernel_rfl) rfl rfl ?_
  simp -dsimp -implicitDefEqProofs (disch := first | with_reducible assumption | omega) [go_sem]
  refine add64_any x y hx.1 hy.1 ?_
  by_cases c : x + y ≤ 18446744073709551615
  · have e1 : (x + y) % 18446744073709551616 = x + y := by omega
    have e2 : (x + y) / 18446744073709551616 = 0 := by omega
    rw [sumV_ok c] at hk
    rw [e1, e2]
    simp -dsimp -implicitDefEqProofs (disch := first | with_reducible assumption | omega) [go_sem]
    exact fin_here hk
  · have e2 : (x + y) / 18446744073709551616 = 1 := by omega
    rw [sumV_no c] at hk
    rw [e2]
    simp -dsimp -implicitDefEqProofs (disch := first | with_reducible assumption | omega) [go_sem]
    exact fin_here hk
theorem msum_any {zs : List Int} (v : Value) (hz : Ints h .u64 v zs) (hk : K (sumV (tot zs)) L h) : Spec Tryz.prog 157 [v] L h K := by
  have hw := hz.word
  have h0 : ∀ i, 0 ≤ at0 zs i := fun i => (hw i).1
  obtain ⟨a, c, rfl, hn, hc, _, hcs⟩ := hz.open
  refine x_enter Tryz.func157 rfl (rs := [_, _]) rfl rfl mixed (by kernel_rfl) rfl rfl ?_
  simp -dsimp -implicitDefEqProofs (disch := first | with_reducible assumption | omega) [go_sem]
  refine xloop' (0 : Nat) (fun k => k ≤ zs.length ∧ sumK zs k ≤ 18446744073709551615) (fun k => [(11, .int .i64 k), (10, .int .i64 zs.length), (9, .slice a zs.length c), (4, .int .u64 (sumK zs k))]) (fun k => zs.length - k) ?_ ?_ ?_
  · exact ⟨Nat.zero_le _, by simp [sumK]⟩
  · simp [Ent, List.lookup, xEnv, sumK]
  rintro k ⟨k1, k2⟩
  by_cases c1 : k < zs.length
  · have hs := sumK_nonneg h0 k
    simp -dsimp -implicitDefEqProofs (disch := first | with_reducible assumption | omega) [go_sem, idx hcs]
    refine madd_any _ _ ⟨hs, k2⟩ (hw k) ?_
    by_cases c2 : sumK zs k + at0 zs k ≤ 18446744073709551615
    · rw [sumV_ok c2]
      simp -dsimp -implicitDefEqProofs (disch := first | with_reducible assumption | omega) [go_sem]
      exact ⟨k + 1, ⟨by omega, c2⟩, by omega, by simp [Ent, List.lookup, sumK], Drop.refl _ _⟩
    · have := sumK_mono h0 (show k + 1 ≤ zs.length by omega)
      rw [sumV_no (show ¬ tot zs ≤ 18446744073709551615 by simp only [sumK, tot] at *; omega)] at hk
      rw [sumV_no c2]
      simp -dsimp -implicitDefEqProofs (disch := first | with_reducible assumption | omega) [go_sem]
      exact fin_here hk
  · have hkl : k = zs.length := by omega
    subst hkl
    rw [sumV_ok (n := tot zs) k2] at hk
    simp -dsimp -implicitDefEqProofs (disch := first | with_reducible assumption | omega) [go_sem]
    exact fin_here hk
theorem pall_any {zs : List Int} (v : Value) (hz : Ints h .u64 v zs) (hk : K (sumV (tot zs)) L h) : Spec Tryz.prog 224 [v] L h K := by
  refine x_enter Tryz.func224 rfl (rs := [_, _]) rfl rfl mixed (by kernel_rfl) rfl rfl ?_
  simp -dsimp -implicitDefEqProofs (disch := first | with_reducible assumption | omega) [go_sem]
  refine msum_any v hz ?_
  by_cases c : tot zs ≤ 18446744073709551615
  · rw [sumV_ok c] at hk ⊢
    simp -dsimp -implicitDefEqProofs (disch := first | with_reducible assumption | omega) [go_sem]
    exact fin_here hk
  · rw [sumV_no c] at hk ⊢
    simp -dsimp -implicitDefEqProofs (disch := first | with_reducible assumption | omega) [go_sem]
    exact fin_here hk
theorem swithin_any {zs : List Int} (most : Int) (v : Value) (hz : Ints h .u64 v zs) (hm : most ≤ 18446744073709551615) (hk : K (.bool (decide (tot zs ≤ most))) L h) : Spec Tryz.prog 145 [.int .u64 most, v] L h K := by
  refine x_enter Tryz.func145 rfl (rs := [_]) rfl rfl mixed (by kernel_rfl) rfl rfl ?_
  simp -dsimp -implicitDefEqProofs (disch := first | with_reducible assumption | omega) [go_sem]
  refine msum_any v hz ?_
  by_cases c : tot zs ≤ 18446744073709551615
  · rw [sumV_ok c]
    simp -dsimp -implicitDefEqProofs (disch := first | with_reducible assumption | omega) [go_sem]
    exact fin_here hk
  · rw [decide_eq_false (show ¬ tot zs ≤ most by omega)] at hk
    rw [sumV_no c]
    simp -dsimp -implicitDefEqProofs (disch := first | with_reducible assumption | omega) [go_sem]
    exact fin_here hk
theorem sgood_any {zs : List Int} (v : Value) (hz : Ints h .i64 v zs) (hk : K (.bool (zs.all fun z => decide (z = 0))) L h) : Spec Tryz.prog 148 [v] L h K := by
  obtain ⟨a, c, rfl, hn, hc, _, hcs⟩ := hz.open
  refine x_enter Tryz.func148 rfl (rs := [_]) rfl rfl mixed (by kernel_rfl) rfl rfl ?_
  simp -dsimp -implicitDefEqProofs (disch := first | with_reducible assumption | omega) [go_sem]
  refine xloop' (0 : Nat) (fun k => k ≤ zs.length ∧ ∀ j, j < k → at0 zs j = 0) (fun k => [(7, .int .i64 k), (6, .int .i64 zs.length), (5, .slice a zs.length c)]) (fun k => zs.length - k) ?_ ?_ ?_
  · exact ⟨Nat.zero_le _, fun j hj => by omega⟩
  · simp [Ent, List.lookup, xEnv]
  rintro k ⟨k1, k2⟩
  by_cases c1 : k < zs.length
  · by_cases c2 : at0 zs k = 0
    · simp -dsimp -implicitDefEqProofs (disch := first | with_reducible assumption | omega) [go_sem, idx hcs]
      refine ⟨k + 1, ⟨by omega, fun j hj => ?_⟩, by omega, by simp [Ent, List.lookup], Drop.refl _ _⟩
      by_cases e : j = k
      · subst e; exact c2
      · exact k2 j (by omega)
    · have : (zs.all fun z => decide (z = 0)) = false := by
        rw [List.all_eq_false]
        exact ⟨zs[k], List.getElem_mem c1, by simp [at0_lt, c2]⟩
      rw [this] at hk
      simp -dsimp -implicitDefEqProofs (disch := first | with_reducible assumption | omega) [go_sem, idx hcs]
      exact fin_here hk
  · have : (zs.all fun z => decide (z = 0)) = true := by
      rw [List.all_eq_true]
      intro x hx
      obtain ⟨j, hj, rfl⟩ := List.mem_iff_getElem.1 hx
      simp [at0_lt, k2 j (by omega)]
    rw [this] at hk
    simp -dsimp -implicitDefEqProofs (disch := first | with_reducible assumption | omega) [go_sem]
    exact fin_here hk
/-- a field of the first k of a list, as cells -/
def colU {α : Type} (f : α → Int) (l : List α) (k : Nat) : List Value := ((l.take k).map f).map (.int .u64)
theorem colU_len {α : Type} {f : α → Int} {l : List α} {k : Nat} (hk : k ≤ l.length) : (colU f l k).length = k * 1 := by simp [colU, hk]
theorem colU_succ {α : Type} {f : α → Int} {l : List α} {k : Nat} (z : α) (hk : k < l.length) : colU f l (k + 1) = colU f l k ++ [.int .u64 (f (gr z l k))] := by
  rw [gr_lt hk, colU, colU, List.take_succ_eq_append_getElem hk, List.map_append, List.map_append]; rfl
theorem colU_ints {α : Type} {f : α → Int} {l : List α} {h : PH} {v : Value} (sl : Sl h v l.length 1 (colU f l l.length)) (hm : ∀ x ∈ l, 0 ≤ f x ∧ f x ≤ 18446744073709551615) : Ints h .u64 v (l.map f) := by
  refine ⟨?_, fun z hz => ?_⟩
  · simpa [colU] using sl
  · obtain ⟨x, hx, rfl⟩ := List.mem_map.1 hz
    exact hm x hx
set_option maxHeartbeats 1600000 in
theorem balances_any {l : List MemD} (v : Value) (hd0 : Recs memC 6 h v l) (hm : ∀ x ∈ l, MemOk x) (hn : l.length ≤ 100000) (hk : ∀ h' r, PH.le h h' → Ints h' .u64 r (l.map MemD.bal) → K r L h') : Spec Tryz.prog 223 [v] L h K := by
  obtain ⟨a, c, rfl, hc, hl, _, hd⟩ := hd0.open
  refine x_enter Tryz.func223 rfl (rs := [_]) rfl rfl mixed (by kernel_rfl) rfl rfl ?_
  simp -dsimp -implicitDefEqProofs (disch := first | with_reducible assumption | omega) [go_sem]
  refine xloop (γ := Nat × Option (Nat × Nat)) (0, none) (fun s => s.1 ≤ l.length ∧ okO s.2 s.1 ∧ apO s.2 L h) (fun s => [(8, .int .i64 s.1), (7, .int .i64 l.length), (6, .slice a l.length c), (3, ovs s.2 s.1)])
    (fun s => oent 22 1 s.2 (colU MemD.bal l s.1) L) (fun _ => h) (fun s => l.length - s.1) ?_ ?_ ?_ ?_
  · exact ⟨Nat.zero_le _, rfl, trivial⟩
  · simp [Ent, List.lookup, xEnv, ovs]
  · exact Drop.refl _ _
  rintro ⟨k, o⟩ ⟨k1, k2, k3⟩
  simp only at k1 k2 k3 ⊢
  by_cases c1 : k < l.length
  · simp -dsimp -implicitDefEqProofs (disch := first | with_reducible assumption | omega) [go_sem, ↓idxR zeroM (by decide) hd, memC]
    refine xnew fun b1 n_b1 h_b1 => ?_
    try simp only [Apart] at n_b1
    simp -dsimp -implicitDefEqProofs (disch := first | with_reducible assumption | omega) [go_sem, memC]
    refine xnew fun b2 n_b2 h_b2 => ?_
    try simp only [Apart] at n_b2
    simp -dsimp -implicitDefEqProofs (disch := first | with_reducible assumption | omega) [go_sem, memC]
    refine xappend (t := 25) (e := 22) (sz := 1) (bytes := 8) (by kernel_rfl) tI_22 rfl rfl rfl rfl (by decide) [_, _] L o k (colU MemD.bal l k) k2 (colU_len k1) (Src.own List.mem_cons_self) (m := 1) (news := [.int .u64 (gr zeroM l k).bal]) rfl (by intro u hu; simp only [List.mem_singleton] at hu; subst hu; rfl) (by simp [maxLen]; omega) (by omega) ?_
    intro o' j1 j2 j3
    simp -dsimp -implicitDefEqProofs (disch := first | with_reducible assumption | omega) [go_sem]
    refine ⟨k + 1, o', ⟨by omega, j1, apO_tail (apO_tail j2)⟩, by omega, by simp [Ent, List.lookup], ?_⟩
    rw [colU_succ zeroM c1]
    exact (Drop.tail _ _ _).trans (Drop.tail _ _ _)
  · have hkl : k = l.length := by omega
    subst hkl
    simp -dsimp -implicitDefEqProofs (disch := first | with_reducible assumption | omega) [go_sem]
    exact fin_pub (n := l.length) k2 (colU_len (Nat.le_refl _)) (by omega) k3 fun h' le sl => fin_here (hk h' _ le (colU_ints sl fun x hx => (hm x hx).u _ (by simp)))

theorem amtDep_any (d : DepD) (hk : K (.int .u64 d.amt) L h) : Spec Tryz.prog 279 [.agg #[.int .i64 d.acct, .int .i64 d.mem, .int .u64 d.amt, .bool d.new]] L h K := by
  refine x_enter Tryz.func279 rfl (rs := [_]) rfl rfl mixed (by kernel_rfl) rfl rfl ?_
  simp -dsimp -implicitDefEqProofs (disch := first | with_reducible assumption | omega) [go_sem]
  refine xnew fun b1 n_b1 h_b1 => ?_
  try simp only [Apart] at n_b1
  simp -dsimp -implicitDefEqProofs (disch := first | with_reducible assumption | omega) [go_sem]
  exact fin_tail (fin_here hk)
theorem amtDue_any (d : DueD) (hk : K (.int .u64 d.amt) L h) : Spec Tryz.prog 281 [.agg #[.int .i64 d.acct, .int .i64 d.at', .int .u64 d.amt]] L h K := by
  refine x_enter Tryz.func281 rfl (rs := [_]) rfl rfl mixed (by kernel_rfl) rfl rfl ?_
  simp -dsimp -implicitDefEqProofs (disch := first | with_reducible assumption | omega) [go_sem]
  refine xnew fun b1 n_b1 h_b1 => ?_
  try simp only [Apart] at n_b1
  simp -dsimp -implicitDefEqProofs (disch := first | with_reducible assumption | omega) [go_sem]
  exact fin_tail (fin_here hk)
set_option maxHeartbeats 1600000 in
theorem amountsDep_any {l : List DepD} (v : Value) (hd0 : Recs depC 4 h v l) (hn : l.length ≤ 100000) (hk : ∀ o, okO o l.length → apO o L h → K (ovs o l.length) (oent 22 1 o (colU DepD.amt l l.length) L) h) : Spec Tryz.prog 278 [v, .func (.func 279) #[] #[]] L h K := by
  obtain ⟨a, c, rfl, hc, hl, _, hd⟩ := hd0.open
  refine x_enter Tryz.func278 rfl (rs := [_]) rfl rfl mixed (by kernel_rfl) rfl rfl ?_
  simp -dsimp -implicitDefEqProofs (disch := first | with_reducible assumption | omega) [go_sem]
  refine xloop (γ := Nat × Option (Nat × Nat)) (0, none) (fun s => s.1 ≤ l.length ∧ okO s.2 s.1 ∧ apO s.2 L h) (fun s => [(10, .int .i64 s.1), (9, .int .i64 l.length), (8, .slice a l.length c), (5, ovs s.2 s.1), (1, .func (.func 279) #[] #[])])
    (fun s => oent 22 1 s.2 (colU DepD.amt l s.1) L) (fun _ => h) (fun s => l.length - s.1) ?_ ?_ ?_ ?_
  · exact ⟨Nat.zero_le _, rfl, trivial⟩
  · simp [Ent, List.lookup, xEnv, ovs]
  · exact Drop.refl _ _
  rintro ⟨k, o⟩ ⟨k1, k2, k3⟩
  simp only at k1 k2 k3 ⊢
  by_cases c1 : k < l.length
  · simp -dsimp -implicitDefEqProofs (disch := first | with_reducible assumption | omega) [go_sem, ↓idxR zeroDep (by decide) hd, depC]
    refine xnew fun b1 n_b1 h_b1 => ?_
    try simp only [Apart] at n_b1
    simp -dsimp -implicitDefEqProofs (disch := first | with_reducible assumption | omega) [go_sem, depC]
    refine amtDep_any (gr zeroDep l k) ?_
    simp -dsimp -implicitDefEqProofs (disch := first | with_reducible assumption | omega) [go_sem]
    refine xnew fun b2 n_b2 h_b2 => ?_
    try simp only [Apart] at n_b2
    simp -dsimp -implicitDefEqProofs (disch := first | with_reducible assumption | omega) [go_sem]
    refine xappend (t := 25) (e := 22) (sz := 1) (bytes := 8) (by kernel_rfl) tI_22 rfl rfl rfl rfl (by decide) [_, _] L o k (colU DepD.amt l k) k2 (colU_len k1) (Src.own List.mem_cons_self) (m := 1) (news := [.int .u64 (gr zeroDep l k).amt]) rfl (by intro u hu; simp only [List.mem_singleton] at hu; subst hu; rfl) (by simp [maxLen]; omega) (by omega) ?_
    intro o' j1 j2 j3
    simp -dsimp -implicitDefEqProofs (disch := first | with_reducible assumption | omega) [go_sem]
    refine ⟨k + 1, o', ⟨by omega, j1, apO_tail (apO_tail j2)⟩, by omega, by simp [Ent, List.lookup], ?_⟩
    rw [colU_succ zeroDep c1]
    exact (Drop.tail _ _ _).trans (Drop.tail _ _ _)
  · have hkl : k = l.length := by omega
    subst hkl
    simp -dsimp -implicitDefEqProofs (disch := first | with_reducible assumption | omega) [go_sem]
    exact fin_here (hk o k2 k3)

set_option maxHeartbeats 1600000 in
theorem amountsDue_any {l : List DueD} (v : Value) (hd0 : Recs dueC 3 h v l) (hn : l.length ≤ 100000) (hk : ∀ o, okO o l.length → apO o L h → K (ovs o l.length) (oent 22 1 o (colU DueD.amt l l.length) L) h) : Spec Tryz.prog 280 [v, .func (.func 281) #[] #[]] L h K := by
  obtain ⟨a, c, rfl, hc, hl, _, hd⟩ := hd0.open
  refine x_enter Tryz.func280 rfl (rs := [_]) rfl rfl mixed (by kernel_rfl) rfl rfl ?_
  simp -dsimp -implicitDefEqProofs (disch := first | with_reducible assumption | omega) [go_sem]
  refine xloop (γ := Nat × Option (Nat × Nat)) (0, none) (fun s => s.1 ≤ l.length ∧ okO s.2 s.1 ∧ apO s.2 L h) (fun s => [(10, .int .i64 s.1), (9, .int .i64 l.length), (8, .slice a l.length c), (5, ovs s.2 s.1), (1, .func (.func 281) #[] #[])])
    (fun s => oent 22 1 s.2 (colU DueD.amt l s.1) L) (fun _ => h) (fun s => l.length - s.1) ?_ ?_ ?_ ?_
  · exact ⟨Nat.zero_le _, rfl, trivial⟩
  · simp [Ent, List.lookup, xEnv, ovs]
  · exact Drop.refl _ _
  rintro ⟨k, o⟩ ⟨k1, k2, k3⟩
  simp only at k1 k2 k3 ⊢
  by_cases c1 : k < l.length
  · simp -dsimp -implicitDefEqProofs (disch := first | with_reducible assumption | omega) [go_sem, ↓idxR zeroDue (by decide) hd, dueC]
    refine xnew fun b1 n_b1 h_b1 => ?_
    try simp only [Apart] at n_b1
    simp -dsimp -implicitDefEqProofs (disch := first | with_reducible assumption | omega) [go_sem, dueC]
    refine amtDue_any (gr zeroDue l k) ?_
    simp -dsimp -implicitDefEqProofs (disch := first | with_reducible assumption | omega) [go_sem]
    refine xnew fun b2 n_b2 h_b2 => ?_
    try simp only [Apart] at n_b2
    simp -dsimp -implicitDefEqProofs (disch := first | with_reducible assumption | omega) [go_sem]
    refine xappend (t := 25) (e := 22) (sz := 1) (bytes := 8) (by kernel_rfl) tI_22 rfl rfl rfl rfl (by decide) [_, _] L o k (colU DueD.amt l k) k2 (colU_len k1) (Src.own List.mem_cons_self) (m := 1) (news := [.int .u64 (gr zeroDue l k).amt]) rfl (by intro u hu; simp only [List.mem_singleton] at hu; subst hu; rfl) (by simp [maxLen]; omega) (by omega) ?_
    intro o' j1 j2 j3
    simp -dsimp -implicitDefEqProofs (disch := first | with_reducible assumption | omega) [go_sem]
    refine ⟨k + 1, o', ⟨by omega, j1, apO_tail (apO_tail j2)⟩, by omega, by simp [Ent, List.lookup], ?_⟩
    rw [colU_succ zeroDue c1]
    exact (Drop.tail _ _ _).trans (Drop.tail _ _ _)
  · have hkl : k = l.length := by omega
    subst hkl
    simp -dsimp -implicitDefEqProofs (disch := first | with_reducible assumption | omega) [go_sem]
    exact fin_here (hk o k2 k3)

/-- a call's result may be left as it stands behind some forgetting -/
theorem Spec.fin {f : FuncId} {args : List Value} {L : Own} {h : PH} {K : PK} (hs : Spec Tryz.prog f args L h fun v L' h' => fin K v L' h') : Spec Tryz.prog f args L h K :=
  ⟨trivial, fun W hg => (hs.2 W hg).mono fun e W' ⟨r, L', h', he, ⟨L2, h2, hd, hk⟩, st⟩ => by
    obtain ⟨g, f⟩ := hd W' st.1
    refine ⟨r, L2, h2, he, hk, g, st.2.1, fun e he => ?_⟩
    obtain ⟨e', he', hb⟩ := List.mem_map.1 (f e he)
    rw [← hb]; exact st.2.2 e' he'⟩
end Go.X

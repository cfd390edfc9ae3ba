/- Contracts of the drawing of numbers: seats.milled, its closure, below, Mill, Order; bullionref36.Mill, Order. Conditions: at most 256 numbers. -/
import Derived.Test.YtfilkbfkhdaakaaGreatTD
import Derived.Laws.BitsAllLaws
set_option linter.unusedVariables false
set_option linter.unusedSimpArgs false
set_option maxRecDepth 20000
namespace Go.X
open Go.RowKit Go.Proofs Go.Bl
variable {L : Own} {h : PH} {K : PK}
@[go_sem ↓] theorem func_one (f : Fn) (a b : Array Value) : (Value.func f a b).oneCell' = true := rfl
/-- the mill's steps -/
def mZ1 (y : Int) : Int := IntKind.u64.wrap (bits .xor .u64 y (y / 1073741824) * 13787848793156543929)
def mZ2 (y : Int) : Int := IntKind.u64.wrap (bits .xor .u64 y (y / 134217728) * 10723151780598845931)
def mZ3 (y : Int) : Int := bits .xor .u64 y (y / 2147483648)
def mSt (seed : Int) (k : Int) : Int := IntKind.u64.wrap (seed + k * 11400714819323198485)
def mDr (seed : Int) (i : Nat) : Int := mZ3 (mZ2 (mZ1 (mSt seed (i + 1))))
def mL (seed : Int) (n : Nat) : List Int := (List.range n).map (mDr seed)
theorem mL_len (seed : Int) (n : Nat) : (mL seed n).length = n := by simp [mL]
theorem mL_succ (seed : Int) (n : Nat) : mL seed (n + 1) = mL seed n ++ [mDr seed n] := by simp [mL, List.range_succ]
theorem mL_at (seed : Int) {n i : Nat} (hi : i < n) : at0 (mL seed n) i = mDr seed i := by
  rw [← at0_lt (by rw [mL_len]; exact hi)]; simp [mL]
theorem u64_range (a : Int) : 0 ≤ IntKind.u64.wrap a ∧ IntKind.u64.wrap a ≤ 18446744073709551615 := by
  rw [wrap_u64_mod]; omega
theorem mZ3_range (y : Int) : 0 ≤ mZ3 y ∧ mZ3 y ≤ 18446744073709551615 := u64_range _
theorem mDr_range (seed : Int) (i : Nat) : 0 ≤ mDr seed i ∧ mDr seed i ≤ 18446744073709551615 := mZ3_range _
theorem mSt_zero (seed : Int) (hs : 0 ≤ seed ∧ seed ≤ 18446744073709551615) : mSt seed 0 = seed := by rw [mSt, wrap_u64_mod]; omega
theorem mSt_next (seed k : Int) : IntKind.u64.wrap (mSt seed k + 11400714819323198485) = mSt seed (k + 1) := by
  simp only [mSt, wrap_u64_mod]; omega
theorem mSt_ref (seed k : Int) : IntKind.u64.wrap (seed + IntKind.u64.wrap (k * 11400714819323198485)) = mSt seed k := by
  simp only [mSt, wrap_u64_mod]; omega
theorem mq1 (s k : Int) : IntKind.u64.wrap ((mSt s k).tdiv 1073741824) = mSt s k / 1073741824 := by
  have : 0 ≤ mSt s k ∧ mSt s k ≤ 18446744073709551615 := u64_range _
  rw [Int.tdiv_eq_ediv_of_nonneg (by omega), wrap_u64_mod]; omega
theorem mq2 (y : Int) : IntKind.u64.wrap ((mZ1 y).tdiv 134217728) = mZ1 y / 134217728 := by
  have : 0 ≤ mZ1 y ∧ mZ1 y ≤ 18446744073709551615 := u64_range _
  rw [Int.tdiv_eq_ediv_of_nonneg (by omega), wrap_u64_mod]; omega
theorem mq3 (y : Int) : IntKind.u64.wrap ((mZ2 y).tdiv 2147483648) = mZ2 y / 2147483648 := by
  have : 0 ≤ mZ2 y ∧ mZ2 y ≤ 18446744073709551615 := u64_range _
  rw [Int.tdiv_eq_ediv_of_nonneg (by omega), wrap_u64_mod]; omega
theorem mZ1_fold (y : Int) : IntKind.u64.wrap (bits .xor .u64 y (y / 1073741824) * 13787848793156543929) = mZ1 y := rfl
theorem mZ2_fold (y : Int) : IntKind.u64.wrap (bits .xor .u64 y (y / 134217728) * 10723151780598845931) = mZ2 y := rfl
theorem mZ3_fold (y : Int) : bits .xor .u64 y (y / 2147483648) = mZ3 y := rfl
theorem mnext_any (b : Nat) (seed : Int) (k : Nat) (hb : h b = noC)
    (hk : K (.int .u64 (mDr seed k)) (⟨b, 22, [.int .u64 (mSt seed (k + 1))], 1⟩ :: L) h) :
    Spec Tryz.prog 188 [.pointer (some ⟨b, 0, none⟩)] (⟨b, 22, [.int .u64 (mSt seed k)], 1⟩ :: L) h K := by
  refine x_enter Tryz.func188 rfl (rs := [_]) rfl rfl mixed (by kernel_rfl) rfl rfl ?_
  simp -dsimp -implicitDefEqProofs (disch := first | with_reducible assumption | omega) [go_sem, mSt_next, mZ1_fold, mZ2_fold, mZ3_fold]
  exact fin_here hk
theorem milled_any (seed : Int) (hs : 0 ≤ seed ∧ seed ≤ 18446744073709551615) (hk : ∀ b, Apart b L → h b = noC → K (.agg #[.func (.func 188) #[] #[.pointer (some ⟨b, 0, none⟩)]]) (⟨b, 22, [.int .u64 (mSt seed (0 : Nat))], 1⟩ :: L) h) :
    Spec Tryz.prog 102 [.int .u64 seed] L h K := by
  rw [show mSt seed ((0 : Nat) : Int) = seed from mSt_zero seed hs] at hk
  refine x_enter Tryz.func102 rfl (rs := [_]) rfl rfl mixed (by kernel_rfl) rfl rfl ?_
  simp -dsimp -implicitDefEqProofs (disch := first | with_reducible assumption | omega) [go_sem]
  refine xnew fun b1 n_b1 h_b1 => ?_
  try simp only [Apart] at n_b1
  simp -dsimp -implicitDefEqProofs (disch := first | with_reducible assumption | omega) [go_sem]
  refine xnew fun b2 n_b2 h_b2 => ?_
  try simp only [Apart] at n_b2
  simp -dsimp -implicitDefEqProofs (disch := first | with_reducible assumption | omega) [go_sem]
  exact fin_perm (List.Perm.swap _ _ _) (fin_tail (fin_here (hk b2 n_b2.2 h_b2)))
theorem mbelow_any (b : Nat) (seed : Int) (k : Nat) (n : Int) (hn : 0 < n ∧ n ≤ 18446744073709551615) (hb : h b = noC)
    (hk : K (.int .u64 (mDr seed k % n)) (⟨b, 22, [.int .u64 (mSt seed (k + 1))], 1⟩ :: L) h) :
    Spec Tryz.prog 103 [.agg #[.func (.func 188) #[] #[.pointer (some ⟨b, 0, none⟩)]], .int .u64 n] (⟨b, 22, [.int .u64 (mSt seed k)], 1⟩ :: L) h K := by
  have hr := mDr_range seed k
  refine x_enter Tryz.func103 rfl (rs := [_]) rfl rfl mixed (by kernel_rfl) rfl rfl ?_
  simp -dsimp -implicitDefEqProofs (disch := first | with_reducible assumption | omega) [go_sem]
  refine xnew fun b2 n_b2 h_b2 => ?_
  try simp only [Apart] at n_b2
  simp -dsimp -implicitDefEqProofs (disch := first | with_reducible assumption | omega) [go_sem]
  refine call_p1 (mnext_any b seed k hb ?_)
  simp -dsimp -implicitDefEqProofs (disch := first | with_reducible assumption | omega) [go_sem]
  exact fin_perm (List.Perm.swap _ _ _) (fin_tail (fin_here hk))
theorem rmill_any (seed : Int) (n : Nat) (hx : 0 ≤ seed ∧ seed ≤ 18446744073709551615) (hn : n ≤ 1000) (hk : ∀ o, okO o n → apO o L h → K (ovs o n) (oent 22 1 o ((mL seed n).map (.int .u64)) L) h) : Spec Tryz.prog 107 [.int .u64 seed, .int .i64 n] L h K := by
  refine x_enter Tryz.func107 rfl (rs := [_]) rfl rfl mixed (by kernel_rfl) rfl rfl ?_
  simp -dsimp -implicitDefEqProofs (disch := first | with_reducible assumption | omega) [go_sem]
  refine xloop (γ := Nat × Option (Nat × Nat)) (0, none) (fun s => s.1 ≤ n ∧ okO s.2 s.1 ∧ apO s.2 L h) (fun s => [(6, .int .i64 (s.1 + 1)), (5, ovs s.2 s.1), (1, .int .i64 n), (0, .int .u64 seed)]) (fun s => oent 22 1 s.2 ((mL seed s.1).map (.int .u64)) L) (fun _ => h) (fun s => n - s.1) ?_ ?_ ?_ ?_
  · exact ⟨Nat.zero_le _, rfl, trivial⟩
  · simp [Ent, List.lookup, ovs, xEnv]
  · exact Drop.refl _ _
  rintro ⟨k, o⟩ ⟨i1, i2, i3⟩
  simp only at i1 i2 i3 ⊢
  by_cases c1 : k < n
  · simp -dsimp -implicitDefEqProofs (disch := first | with_reducible assumption | omega) [go_sem, mq1, mq2, mq3, mSt_ref, mZ1_fold, mZ2_fold, mZ3_fold]
    refine xnew fun b2 n_b2 h_b2 => ?_
    try simp only [Apart] at n_b2
    simp -dsimp -implicitDefEqProofs (disch := first | with_reducible assumption | omega) [go_sem, mq1, mq2, mq3, mSt_ref, mZ1_fold, mZ2_fold, mZ3_fold]
    refine xappend (t := 25) (e := 22) (sz := 1) (bytes := 8) (z := [.int .u64 0]) (by kernel_rfl) tI_22 rfl rfl rfl rfl (by decide) [_] _ o k _ i2 (by simp [mL_len]) (Src.own List.mem_cons_self) (m := 1) (news := [.int .u64 (mDr seed k)]) rfl (fun u hu => by simp at hu; subst hu; rfl) (by simp [maxLen]; omega) (by omega) ?_
    intro o' j1 j2 j3
    simp -dsimp -implicitDefEqProofs (disch := first | with_reducible assumption | omega) [go_sem]
    refine ⟨k + 1, o', ⟨by omega, j1, apO_tail j2⟩, by omega, by simp [Ent, List.lookup], ?_⟩
    rw [mL_succ, List.map_append]
    exact Drop.tail _ _ _
  · have hkn : k = n := by omega
    subst hkn
    simp -dsimp -implicitDefEqProofs (disch := first | with_reducible assumption | omega) [go_sem]
    exact fin_here (hk o i2 i3)
theorem smill_any (seed : Int) (n : Nat) (hx : 0 ≤ seed ∧ seed ≤ 18446744073709551615) (hn : n ≤ 256) (hk : ∀ o, okO o n → apO o L h → K (.tuple #[ovs o n, .int .i64 0]) (oent 22 1 o ((mL seed n).map (.int .u64)) L) h) : Spec Tryz.prog 97 [.int .u64 seed, .int .i64 n] L h K := by
  refine x_enter Tryz.func97 rfl (rs := [_, _]) rfl rfl mixed (by kernel_rfl) rfl rfl ?_
  simp -dsimp -implicitDefEqProofs (disch := first | with_reducible assumption | omega) [go_sem]
  refine milled_any seed hx fun b n_b h_b => ?_
  simp -dsimp -implicitDefEqProofs (disch := first | with_reducible assumption | omega) [go_sem]
  refine xnew fun b6 n_b6 h_b6 => ?_
  try simp only [Apart] at n_b6
  simp -dsimp -implicitDefEqProofs (disch := first | with_reducible assumption | omega) [go_sem]
  refine xloop (γ := Nat × Option (Nat × Nat)) (0, none) (fun s => s.1 ≤ n ∧ okO s.2 s.1 ∧ apO s.2 L h) (fun s => [(17, .int .i64 s.1), (16, .int .i64 n), (7, ovs s.2 s.1), (6, .pointer (some ⟨b6, 0, none⟩))]) (fun s => ⟨b6, 180, [.func (.func 188) #[] #[.pointer (some ⟨b, 0, none⟩)]], 1⟩ :: ⟨b, 22, [.int .u64 (mSt seed s.1)], 1⟩ :: oent 22 1 s.2 ((mL seed s.1).map (.int .u64)) L) (fun _ => h) (fun s => n - s.1) ?_ ?_ ?_ ?_
  · exact ⟨Nat.zero_le _, rfl, trivial⟩
  · simp [Ent, List.lookup, ovs]
  · exact Drop.refl _ _
  rintro ⟨k, o⟩ ⟨i1, i2, i3⟩
  simp only at i1 i2 i3 ⊢
  by_cases c1 : k < n
  · simp -dsimp -implicitDefEqProofs (disch := first | with_reducible assumption | omega) [go_sem]
    refine call_p1 (mnext_any b seed k h_b ?_)
    simp -dsimp -implicitDefEqProofs (disch := first | with_reducible assumption | omega) [go_sem]
    refine xnew fun b2 n_b2 h_b2 => ?_
    try simp only [Apart] at n_b2
    simp -dsimp -implicitDefEqProofs (disch := first | with_reducible assumption | omega) [go_sem]
    refine xappend (t := 25) (e := 22) (sz := 1) (bytes := 8) (z := [.int .u64 0]) (by kernel_rfl) tI_22 rfl rfl rfl rfl (by decide) [_, _, _] _ o k _ i2 (by simp [mL_len]) (Src.own List.mem_cons_self) (m := 1) (news := [.int .u64 (mDr seed k)]) rfl (fun u hu => by simp at hu; subst hu; rfl) (by simp [maxLen]; omega) (by omega) ?_
    intro o' j1 j2 j3
    simp -dsimp -implicitDefEqProofs (disch := first | with_reducible assumption | omega) [go_sem]
    refine ⟨k + 1, o', ⟨by omega, j1, apO_tail (apO_tail (apO_tail j2))⟩, by omega, by simp [Ent, List.lookup], ?_⟩
    rw [mL_succ, List.map_append]
    exact (Drop.tail _ _ _).trans (Drop.perm _ (List.Perm.swap _ _ _))
  · have hkn : k = n := by omega
    subst hkn
    simp -dsimp -implicitDefEqProofs (disch := first | with_reducible assumption | omega) [go_sem]
    exact fin_tail (fin_tail (fin_here (hk o i2 i3)))
/-- two elements change places -/
def swp (xs : List Int) (i j : Nat) : List Int := (xs.set i (at0 xs j)).set j (at0 xs i)
theorem swp_len (xs : List Int) (i j : Nat) : (swp xs i j).length = xs.length := by simp [swp]
def iota (n : Nat) : List Int := (List.range n).map Int.ofNat
theorem iota_len (n : Nat) : (iota n).length = n := by simp [iota]
theorem iota_at {n i : Nat} (hi : i < n) : at0 (iota n) i = i := by
  rw [← at0_lt (by rw [iota_len]; exact hi)]; simp [iota]
theorem iota_succ (n : Nat) : iota (n + 1) = iota n ++ [(n : Int)] := by simp [iota, List.range_succ]
def ordK (seed : Int) (n : Nat) : Nat → List Int
  | 0 => iota n
  | k + 1 => swp (ordK seed n k) (n - 1 - k) (mDr seed k % ((n - 1 - k : Nat) + 1)).toNat
def ordL (seed : Int) (n : Nat) : List Int := ordK seed n (n - 1)
theorem ordK_len (seed : Int) (n : Nat) : ∀ k, (ordK seed n k).length = n
  | 0 => iota_len n
  | k + 1 => by rw [ordK, swp_len, ordK_len seed n k]
theorem ord_pick (seed : Int) (n k : Nat) (hk : k + 1 < n) : (mDr seed k % ((n - 1 - k : Nat) + 1)).toNat ≤ n - 1 - k := by
  have h1 := Int.emod_nonneg (mDr seed k) (show (((n - 1 - k : Nat) : Int) + 1) ≠ 0 by omega)
  have h2 := Int.emod_lt_of_pos (mDr seed k) (show 0 < (((n - 1 - k : Nat) : Int) + 1) by omega)
  omega
theorem swp_at {xs : List Int} {i j : Nat} (hi : i < xs.length) (hj : j < xs.length) (m : Nat) : at0 (swp xs i j) m = if m = j then at0 xs i else if m = i then at0 xs j else at0 xs m := by
  by_cases c : m = j
  · subst c; rw [if_pos rfl, swp, at0_self _ _ (by simpa using hj)]
  · rw [if_neg c, swp, at0_ne _ _ c]
    by_cases c2 : m = i
    · subst c2; rw [if_pos rfl, at0_self _ _ hi]
    · rw [if_neg c2, at0_ne _ _ c2]
theorem ordK_mem (seed : Int) (n : Nat) : ∀ k, k + 1 ≤ n → ∀ i, i < n → 0 ≤ at0 (ordK seed n k) i ∧ at0 (ordK seed n k) i < n
  | 0, _, i, hi => by rw [ordK, iota_at hi]; omega
  | k + 1, hk, i, hi => by
    have hp := ord_pick seed n k (by omega)
    have ih := ordK_mem seed n k (by omega)
    rw [ordK, swp_at (by rw [ordK_len]; omega) (by rw [ordK_len]; omega)]
    split
    · exact ih _ (by omega)
    · split
      · exact ih _ (by omega)
      · exact ih _ hi
theorem ordL_len (seed : Int) (n : Nat) : (ordL seed n).length = n := ordK_len seed n _
theorem ordL_mem (seed : Int) (n : Nat) (i : Nat) (hi : i < n) : 0 ≤ at0 (ordL seed n) i ∧ at0 (ordL seed n) i < n := ordK_mem seed n _ (by omega) i hi
theorem sorder_any (seed : Int) (n : Nat) (hx : 0 ≤ seed ∧ seed ≤ 18446744073709551615) (hn : n ≤ 256) (hk : ∀ b, Apart b L → h b = noC → K (.tuple #[.slice (some ⟨b, 0, none⟩) n n, .int .i64 0]) (⟨b, 3, (ordL seed n).map (.int .i64), n⟩ :: L) h) : Spec Tryz.prog 98 [.int .u64 seed, .int .i64 n] L h K := by
  refine x_enter Tryz.func98 rfl (rs := [_, _]) rfl rfl mixed (by kernel_rfl) rfl rfl ?_
  simp -dsimp -implicitDefEqProofs (disch := first | with_reducible assumption | omega) [go_sem]
  refine milled_any seed hx fun b n_b h_b => ?_
  simp -dsimp -implicitDefEqProofs (disch := first | with_reducible assumption | omega) [go_sem]
  refine xnew fun b6 n_b6 h_b6 => ?_
  try simp only [Apart] at n_b6
  simp -dsimp -implicitDefEqProofs (disch := first | with_reducible assumption | omega) [go_sem]
  refine xMS_full (e := 3) (z := .int .i64 0) (by kernel_rfl) tI_3 rfl rfl .i64 .i64 _ (by omega) (by simp; omega) (by omega) ?_
  refine xnew fun b7 n_b7 h_b7 => ?_
  try simp only [Apart] at n_b7
  simp -dsimp -implicitDefEqProofs (disch := first | with_reducible assumption | omega) [go_sem]
  refine xloop (γ := Nat × List Int) (0, List.replicate n 0) (fun s => s.1 ≤ n ∧ s.2.length = n ∧ ∀ i, i < s.1 → at0 s.2 i = i) (fun s => [(23, .int .i64 s.1), (22, .int .i64 n), (7, .slice (some ⟨b7, 0, none⟩) n n), (6, .pointer (some ⟨b6, 0, none⟩)), (1, .int .i64 n)]) (fun s => ⟨b7, 3, s.2.map (.int .i64), n⟩ :: ⟨b6, 180, [.func (.func 188) #[] #[.pointer (some ⟨b, 0, none⟩)]], 1⟩ :: ⟨b, 22, [.int .u64 (mSt seed (0 : Nat))], 1⟩ :: L) (fun _ => h) (fun s => n - s.1) ?_ ?_ ?_ ?_
  · exact ⟨Nat.zero_le _, by simp, fun i hi => absurd hi (by omega)⟩
  · simp [Ent, List.lookup, xEnv]
  · rw [List.map_replicate]; exact Drop.refl _ _
  rintro ⟨k, xs⟩ ⟨i1, i2, i3⟩
  simp only at i1 i2 i3 ⊢
  by_cases c1 : k < n
  · simp -dsimp -implicitDefEqProofs (disch := first | with_reducible assumption | omega) [go_sem]
    refine ⟨by omega, k + 1, xs.set k k, ⟨by omega, by simp [i2], fun i hi => ?_⟩, by omega, by simp [Ent, List.lookup], by rw [List.map_set]; exact Drop.refl _ _⟩
    by_cases ci : i = k
    · subst ci; rw [at0_self _ _ (by omega)]
    · rw [at0_ne _ _ ci]; exact i3 i (by omega)
  · have hkn : k = n := by omega
    subst hkn
    have hxs : xs = iota k := at0_ext (by rw [i2, iota_len]) fun j hj => by rw [i3 j (by omega), iota_at (by omega)]
    subst hxs
    simp -dsimp -implicitDefEqProofs (disch := first | with_reducible assumption | omega) [go_sem]
    refine xloop (γ := Nat) 0 (fun j => j ≤ k - 1) (fun j => [(9, .int .i64 ((k : Int) - 1 - j)), (7, .slice (some ⟨b7, 0, none⟩) k k), (6, .pointer (some ⟨b6, 0, none⟩))]) (fun j => ⟨b7, 3, (ordK seed k j).map (.int .i64), k⟩ :: ⟨b6, 180, [.func (.func 188) #[] #[.pointer (some ⟨b, 0, none⟩)]], 1⟩ :: ⟨b, 22, [.int .u64 (mSt seed j)], 1⟩ :: L) (fun _ => h) (fun j => k - j) ?_ ?_ ?_ ?_
    · exact Nat.zero_le _
    · simp [Ent, List.lookup]
    · exact Drop.refl _ _
    intro j hj
    by_cases c2 : j + 1 < k
    · have hp := ord_pick seed k j c2
      have hl := ordK_len seed k j
      have e1 : ((k - 1 - j : Nat) : Int) = (k : Int) - 1 - j := by omega
      rw [e1] at hp
      have h4 := Int.emod_nonneg (mDr seed j) (show ((k : Int) - 1 - j + 1) ≠ 0 by omega)
      obtain ⟨p, hp1, hp2⟩ : ∃ p : Nat, mDr seed j % ((k : Int) - 1 - j + 1) = p ∧ p ≤ k - 1 - j := ⟨(mDr seed j % ((k : Int) - 1 - j + 1)).toNat, by omega, hp⟩
      have es : ordK seed k (j + 1) = swp (ordK seed k j) (k - 1 - j) p := by rw [ordK, e1, hp1]; rfl
      have e3 : ((k : Int) - 1 - j).toNat = k - 1 - j := by omega
      simp -dsimp -implicitDefEqProofs (disch := first | with_reducible assumption | omega) [go_sem]
      refine call_p2 (mbelow_any b seed j _ (by omega) h_b ?_)
      rw [hp1]
      simp -dsimp -implicitDefEqProofs (disch := first | with_reducible assumption | omega) [go_sem]
      refine xanyl (.tk 0 (.tk 1 (.tk 2 (.tk 3 (.tk 4 (.tk 5 (.tk 6 (.tk 8 (.tk 9 (.tk 10 (.tkl 7 (.tkl 11 (.tk 12 (.or false 13 (.tk 14 (.or false 15 (.fin) (.nil))) (.nil))))))))))))))) (by kernel_rfl) (by kernel_rfl) _ (Drop.refl _ _) ?_
      simp -dsimp -implicitDefEqProofs (disch := first | with_reducible assumption | omega) [go_sem, e3, xNth_ints]
      refine ⟨by omega, by omega, j + 1, by omega, by omega, by simp [Ent, List.lookup]; omega, ?_⟩
      rw [es, swp, List.map_set, List.map_set]
      exact Drop.perm _ (List.perm_middle (l₁ := [_, _])).symm
    · simp -dsimp -implicitDefEqProofs (disch := first | with_reducible assumption | omega) [go_sem]
      have hjk : j = k - 1 := by omega
      subst hjk
      exact fin_perm (List.perm_middle (l₁ := [_, _])).symm (fin_tail (fin_tail (fin_here (hk b7 n_b7.2.2 h_b7))))
theorem mL_ints {h' : PH} {seed : Int} {n : Nat} {o : Option (Nat × Nat)} (sl : Sl h' (ovs o n) n 1 ((mL seed n).map (.int .u64))) : Ints h' .u64 (ovs o n) (mL seed n) :=
  ⟨by rw [mL_len]; exact sl, fun z hz => by
    obtain ⟨i, _, rfl⟩ := List.mem_map.1 hz
    rw [show IntKind.u64.min = 0 by decide, show IntKind.u64.max = 18446744073709551615 by decide]
    exact mDr_range seed i⟩
theorem ordL_ints {h' : PH} {seed : Int} {n : Nat} (hn : n ≤ 256) {o : Option (Nat × Nat)} (sl : Sl h' (ovs o n) n 1 ((ordL seed n).map (.int .i64))) : Ints h' .i64 (ovs o n) (ordL seed n) :=
  ⟨by rw [ordL_len]; exact sl, fun z hz => by
    obtain ⟨i, hi, rfl⟩ := List.mem_iff_getElem.1 hz
    rw [ordL_len] at hi
    have := ordL_mem seed n i hi
    rw [at0_lt (by rw [ordL_len]; exact hi), show IntKind.i64.min = -9223372036854775808 by decide, show IntKind.i64.max = 9223372036854775807 by decide]
    omega⟩
theorem rmill_pub (seed : Int) (n : Nat) (hx : 0 ≤ seed ∧ seed ≤ 18446744073709551615) (hn : n ≤ 1000) (hk : ∀ h' r, PH.le h h' → Ints h' .u64 r (mL seed n) → K r L h') : Spec Tryz.prog 107 [.int .u64 seed, .int .i64 n] L h K :=
  Spec.fin (rmill_any seed n hx hn fun o o1 o2 => fin_pub (n := n) o1 (by simp [mL_len]) (by omega) o2 fun h' le sl => fin_here (hk h' _ le (mL_ints sl)))
theorem smill_pub (seed : Int) (n : Nat) (hx : 0 ≤ seed ∧ seed ≤ 18446744073709551615) (hn : n ≤ 256) (hk : ∀ h' r, PH.le h h' → Ints h' .u64 r (mL seed n) → K (.tuple #[r, .int .i64 0]) L h') : Spec Tryz.prog 97 [.int .u64 seed, .int .i64 n] L h K :=
  Spec.fin (smill_any seed n hx hn fun o o1 o2 => fin_pub (n := n) o1 (by simp [mL_len]) (by omega) o2 fun h' le sl => fin_here (hk h' _ le (mL_ints sl)))
theorem smill_err (seed : Int) (n : Int) (hn : n < 0 ∨ 256 < n) (hk : K (.tuple #[.slice none 0 0, .int .i64 2]) L h) : Spec Tryz.prog 97 [.int .u64 seed, .int .i64 n] L h K := by
  refine x_enter Tryz.func97 rfl (rs := [_, _]) rfl rfl mixed (by kernel_rfl) rfl rfl ?_
  simp -dsimp -implicitDefEqProofs (disch := first | with_reducible assumption | omega) [go_sem]
  by_cases c : n < 0
  · simp -dsimp -implicitDefEqProofs (disch := first | with_reducible assumption | omega) [go_sem]
    exact fin_here hk
  · simp -dsimp -implicitDefEqProofs (disch := first | with_reducible assumption | omega) [go_sem]
    exact fin_here hk
theorem sorder_err (seed : Int) (n : Int) (hn : n < 0 ∨ 256 < n) (hk : K (.tuple #[.slice none 0 0, .int .i64 2]) L h) : Spec Tryz.prog 98 [.int .u64 seed, .int .i64 n] L h K := by
  refine x_enter Tryz.func98 rfl (rs := [_, _]) rfl rfl mixed (by kernel_rfl) rfl rfl ?_
  simp -dsimp -implicitDefEqProofs (disch := first | with_reducible assumption | omega) [go_sem]
  by_cases c : n < 0
  · simp -dsimp -implicitDefEqProofs (disch := first | with_reducible assumption | omega) [go_sem]
    exact fin_here hk
  · simp -dsimp -implicitDefEqProofs (disch := first | with_reducible assumption | omega) [go_sem]
    exact fin_here hk
theorem sorder_pub (seed : Int) (n : Nat) (hx : 0 ≤ seed ∧ seed ≤ 18446744073709551615) (hn : n ≤ 256) (hk : ∀ h' r, PH.le h h' → Ints h' .i64 r (ordL seed n) → K (.tuple #[r, .int .i64 0]) L h') : Spec Tryz.prog 98 [.int .u64 seed, .int .i64 n] L h K :=
  Spec.fin (sorder_any seed n hx hn fun b b1 b2 => by
    have := fin_pub (K := K) (L := L) (v := .tuple #[.slice (some ⟨b, 0, none⟩) n n, .int .i64 0]) (e := 3) (sz := 1) (o := some (b, n)) (n := n) (xs := (ordL seed n).map (.int .i64)) (h := h) (L0 := L) ⟨Nat.le_refl _, by simp [maxLen]; omega⟩ (by simp [ordL_len]) (by omega) ⟨b1, b2⟩ fun h' le sl => fin_here (hk h' _ le (ordL_ints hn sl))
    simpa only [oent, Nat.mul_one] using this)
theorem rorder_any (seed : Int) (n : Nat) (hx : 0 ≤ seed ∧ seed ≤ 18446744073709551615) (hn : n ≤ 256) (hk : ∀ h' r, PH.le h h' → Ints h' .i64 r (ordL seed n) → K r L h') : Spec Tryz.prog 106 [.int .u64 seed, .int .i64 n] L h K := by
  refine x_enter Tryz.func106 rfl (rs := [_]) rfl rfl mixed (by kernel_rfl) rfl rfl ?_
  simp -dsimp -implicitDefEqProofs (disch := first | with_reducible assumption | omega) [go_sem]
  refine rmill_pub seed n hx (by omega) fun h1 r le1 ir => ?_
  have ir0 := ir
  obtain ⟨ra, rc, rfl, _, _, _, hcs⟩ := ir.open
  have hcs' : ∀ j, j < n → elemCell h1 ra j = some (.int .u64 (mDr seed j)) := fun j hj => by rw [hcs j (by rw [mL_len]; exact hj), mL_at seed hj]
  rw [mL_len]
  simp -dsimp -implicitDefEqProofs (disch := first | with_reducible assumption | omega) [go_sem]
  refine xloop (γ := Nat × Option (Nat × Nat)) (0, none) (fun s => s.1 ≤ n ∧ okO s.2 s.1 ∧ apO s.2 L h1) (fun s => [(7, .int .i64 s.1), (6, ovs s.2 s.1), (5, .slice ra n rc), (1, .int .i64 n)]) (fun s => oent 3 1 s.2 ((iota s.1).map (.int .i64)) L) (fun _ => h1) (fun s => n - s.1) ?_ ?_ ?_ ?_
  · exact ⟨Nat.zero_le _, rfl, trivial⟩
  · simp [Ent, List.lookup, ovs, xEnv]
  · exact Drop.refl _ _
  rintro ⟨k, o⟩ ⟨i1, i2, i3⟩
  simp only at i1 i2 i3 ⊢
  by_cases c1 : k < n
  · simp -dsimp -implicitDefEqProofs (disch := first | with_reducible assumption | omega) [go_sem]
    refine xnew fun b2 n_b2 h_b2 => ?_
    try simp only [Apart] at n_b2
    simp -dsimp -implicitDefEqProofs (disch := first | with_reducible assumption | omega) [go_sem]
    refine xappend (t := 27) (e := 3) (sz := 1) (bytes := 8) (z := [.int .i64 0]) (by kernel_rfl) tI_3 rfl rfl rfl rfl (by decide) [_] _ o k _ i2 (by simp [iota_len]) (Src.own List.mem_cons_self) (m := 1) (news := [.int .i64 k]) rfl (fun u hu => by simp at hu; subst hu; rfl) (by simp [maxLen]; omega) (by omega) ?_
    intro o' j1 j2 j3
    simp -dsimp -implicitDefEqProofs (disch := first | with_reducible assumption | omega) [go_sem]
    refine ⟨k + 1, o', ⟨by omega, j1, apO_tail j2⟩, by omega, by simp [Ent, List.lookup], ?_⟩
    rw [iota_succ, List.map_append]
    exact Drop.tail _ _ _
  · have hkn : k = n := by omega
    subst hkn
    simp -dsimp -implicitDefEqProofs (disch := first | with_reducible assumption | omega) [go_sem]
    refine xloop (γ := Nat) 0 (fun j => j ≤ k - 1) (fun j => [(8, .int .i64 j), (6, ovs o k), (5, .slice ra k rc), (1, .int .i64 k)]) (fun j => oent 3 1 o ((ordK seed k j).map (.int .i64)) L) (fun _ => h1) (fun j => k - j) ?_ ?_ ?_ ?_
    · exact Nat.zero_le _
    · simp [Ent, List.lookup]
    · exact Drop.refl _ _
    intro j hj
    by_cases c2 : j + 1 < k
    · have hp := ord_pick seed k j c2
      have hl := ordK_len seed k j
      have e1 : ((k - 1 - j : Nat) : Int) = (k : Int) - 1 - j := by omega
      rw [e1] at hp
      have h4 := Int.emod_nonneg (mDr seed j) (show ((k : Int) - 1 - j + 1) ≠ 0 by omega)
      have h5 := mDr_range seed j
      obtain ⟨p, hp1, hp2⟩ : ∃ p : Nat, mDr seed j % ((k : Int) - 1 - j + 1) = p ∧ p ≤ k - 1 - j := ⟨(mDr seed j % ((k : Int) - 1 - j + 1)).toNat, by omega, hp⟩
      have es : ordK seed k (j + 1) = swp (ordK seed k j) (k - 1 - j) p := by rw [ordK, e1, hp1]; rfl
      have e3 : ((k : Int) - 1 - j).toNat = k - 1 - j := by omega
      obtain ⟨b, cap, rfl⟩ : ∃ b cap, o = some (b, cap) := by
        cases o with
        | none => have : k = 0 := i2; omega
        | some q => exact ⟨_, _, rfl⟩
      have hb : h1 b = noC := i3.2
      simp only [ovs, oent, Nat.mul_one]
      simp -dsimp -implicitDefEqProofs (disch := first | with_reducible assumption | omega) [go_sem, idx hcs', hp1, e3, xNth_ints]
      refine ⟨by omega, by omega, j + 1, by omega, by omega, by simp [Ent, List.lookup], ?_⟩
      rw [es, swp, List.map_set, List.map_set]
      exact Drop.refl _ _
    · simp -dsimp -implicitDefEqProofs (disch := first | with_reducible assumption | omega) [go_sem]
      have hjk : j = k - 1 := by omega
      subst hjk
      exact fin_pub (n := k) i2 (by simp [ordK_len]) (by omega) i3 fun h' le sl => fin_here (hk h' _ (le1.trans le) (ordL_ints hn sl))
end Go.X
/-! Plain laws of seats: an order is a permutation of places; all seats are given, each to one that has weight; who has more weight has no fewer seats but one. Conditions: none. -/
set_option maxRecDepth 20000
namespace Go.X
open Go.RowKit Go.Proofs Go.Bl
theorem swp_perm {xs : List Int} {i j : Nat} (hi : i < xs.length) (hj : j < xs.length) : (swp xs i j).Perm xs := by
  rw [swp, ← at0_lt hi, ← at0_lt hj]
  exact List.set_set_perm hi hj
theorem ordK_perm (seed : Int) (n : Nat) : ∀ k, k + 1 ≤ n → (ordK seed n k).Perm (iota n)
  | 0, _ => .refl _
  | k + 1, hk => by
    have hp := ord_pick seed n k (by omega)
    rw [ordK]
    exact (swp_perm (by rw [ordK_len]; omega) (by rw [ordK_len]; omega)).trans (ordK_perm seed n k (by omega))
theorem ordL_perm (seed : Int) (n : Nat) : (ordL seed n).Perm (iota n) := by
  cases n with
  | zero => exact .refl _
  | succ n => exact ordK_perm _ _ _ (by omega)
theorem iota_nodup (n : Nat) : (iota n).Nodup :=
  List.pairwise_map.2 (List.nodup_range.imp fun {a b} hab e => hab (Int.ofNat.inj e))
theorem ordL_nodup (seed : Int) (n : Nat) : (ordL seed n).Nodup := (ordL_perm seed n).symm.nodup (iota_nodup n)
/-! ### parts -/
def posK (ws : List Int) : Nat → Int
  | 0 => 0
  | k + 1 => posK ws k + if 0 < at0 ws k then 1 else 0
theorem posK_nonneg (ws : List Int) : ∀ k, 0 ≤ posK ws k
  | 0 => Int.le_refl _
  | k + 1 => by
    have := posK_nonneg ws k
    rw [posK]
    split <;> omega
theorem part_low {t w x : Int} (hw : 0 < w) (hx : 0 ≤ x) : t * x ≤ w * part4 t w x + (w - 1) * (if 0 < x then 1 else 0) := by
  rw [part4, if_pos hw]
  have h1 := Int.mul_ediv_add_emod (t * x) w
  have h2 := Int.emod_lt_of_pos (t * x) hw
  split
  · rw [Int.mul_one]; omega
  · have : x = 0 := by omega
    subst this
    simp
theorem sum_low {t w : Int} {ws : List Int} (hw : 0 < w) (h0 : ∀ i, 0 ≤ at0 ws i) : ∀ k, k ≤ ws.length → t * sumK ws k ≤ w * sumK (splitL t w ws) k + (w - 1) * posK ws k
  | 0, _ => by simp [sumK, posK]
  | k + 1, hk => by
    have ih := sum_low (t := t) hw h0 k (by omega)
    have h1 := part_low (t := t) hw (h0 k)
    rw [sumK, sumK, posK, splitL, at0_mapI _ ws (show k < ws.length by omega), Int.mul_add, Int.mul_add, Int.mul_add]
    rw [splitL] at ih
    omega
theorem left_le {t : Int} {ws : List Int} (hw : 0 < tot ws) (h0 : ∀ i, 0 ≤ at0 ws i) : t - tot (splitL t (tot ws) ws) ≤ posK ws ws.length := by
  have h1 := sum_low (t := t) hw h0 ws.length (Nat.le_refl _)
  have h2 : tot (splitL t (tot ws) ws) = sumK (splitL t (tot ws) ws) ws.length := by rw [tot]; simp [splitL]
  rw [← h2, show sumK ws ws.length = tot ws from rfl] at h1
  have h3 := posK_nonneg ws ws.length
  refine Int.not_lt.1 fun c => ?_
  have h4 : tot ws * (posK ws ws.length + 1) ≤ tot ws * (t - tot (splitL t (tot ws) ws)) := Int.mul_le_mul_of_nonneg_left (by omega) (by omega)
  rw [Int.mul_add, Int.mul_sub, Int.mul_one] at h4
  rw [Int.sub_mul, Int.one_mul, Int.mul_comm t] at h1
  omega
theorem spr_left {t : Int} {ws : List Int} (hl : 0 ≤ t - tot (splitL t (tot ws) ws)) : ∀ k, (sprK t ws k).2 = max 0 (t - tot (splitL t (tot ws) ws) - posK ws k)
  | 0 => by simp only [sprK, posK]; omega
  | k + 1 => by
    have ih := spr_left hl k
    have hp := posK_nonneg ws k
    rw [sprK, posK]
    by_cases c1 : 0 < at0 ws k
    · by_cases c2 : 0 < (sprK t ws k).2
      · rw [if_pos ⟨c1, c2⟩, if_pos c1]
        show (sprK t ws k).2 - 1 = _
        omega
      · rw [if_neg (fun c => c2 c.2), if_pos c1]
        omega
    · rw [if_neg (fun c => c1 c.1), if_neg c1]
      omega
theorem spL_len {t : Int} {ws : List Int} (ht : 0 ≤ t) (h0 : ∀ i, 0 ≤ at0 ws i) : (spL t ws).length = ws.length := (spr_ok ht h0 ws.length (Nat.le_refl _)).len
theorem spL_tot {t : Int} {ws : List Int} (ht : 0 ≤ t) (hw : 0 < tot ws) (h0 : ∀ i, 0 ≤ at0 ws i) : tot (spL t ws) = t := by
  have o := spr_ok ht h0 ws.length (Nat.le_refl _)
  have o0 := spr_ok ht h0 0 (Nat.zero_le _)
  have hl : 0 ≤ t - tot (splitL t (tot ws) ws) := o0.left
  have h1 := spr_left hl ws.length
  have h2 := left_le (t := t) hw h0
  have h3 := o.sum
  rw [spL]
  omega
theorem spr_at {t : Int} {ws : List Int} (ht : 0 ≤ t) (h0 : ∀ i, 0 ≤ at0 ws i) : ∀ k, k ≤ ws.length → ∀ i, at0 (sprK t ws k).1 i = at0 (splitL t (tot ws) ws) i + (if i < k ∧ 0 < at0 ws i ∧ 0 < (sprK t ws i).2 then 1 else 0)
  | 0, _, i => by simp [sprK]
  | k + 1, hk, i => by
    have ih := spr_at ht h0 k (by omega) i
    have hl := (spr_ok ht h0 k (by omega)).len
    by_cases c : 0 < at0 ws k ∧ 0 < (sprK t ws k).2
    · have e : sprK t ws (k + 1) = ((sprK t ws k).1.set k (at0 (sprK t ws k).1 k + 1), (sprK t ws k).2 - 1) := by rw [sprK, if_pos c]
      rw [e]
      show at0 ((sprK t ws k).1.set k _) i = _
      by_cases ci : i = k
      · subst ci
        rw [at0_self _ _ (by omega), ih, if_neg (by omega), if_pos ⟨by omega, c.1, c.2⟩]
        omega
      · rw [at0_ne _ _ ci, ih]
        by_cases c2 : i < k
        · by_cases c3 : 0 < at0 ws i ∧ 0 < (sprK t ws i).2
          · rw [if_pos ⟨c2, c3⟩, if_pos ⟨by omega, c3⟩]
          · rw [if_neg (fun x => c3 x.2), if_neg (fun x => c3 x.2)]
        · rw [if_neg (fun x => c2 x.1), if_neg (fun x => by omega)]
    · have e : sprK t ws (k + 1) = sprK t ws k := by rw [sprK, if_neg c]
      rw [e, ih]
      by_cases ci : i = k
      · subst ci
        rw [if_neg (fun x => by omega), if_neg (fun x => c x.2)]
      · by_cases c2 : i < k
        · by_cases c3 : 0 < at0 ws i ∧ 0 < (sprK t ws i).2
          · rw [if_pos ⟨c2, c3⟩, if_pos ⟨by omega, c3⟩]
          · rw [if_neg (fun x => c3 x.2), if_neg (fun x => c3 x.2)]
        · rw [if_neg (fun x => c2 x.1), if_neg (fun x => by omega)]
theorem spL_at {t : Int} {ws : List Int} (ht : 0 ≤ t) (h0 : ∀ i, 0 ≤ at0 ws i) {i : Nat} (hi : i < ws.length) : at0 (spL t ws) i = part4 t (tot ws) (at0 ws i) + (if 0 < at0 ws i ∧ 0 < (sprK t ws i).2 then 1 else 0) := by
  rw [spL, spr_at ht h0 ws.length (Nat.le_refl _), splitL, at0_mapI _ ws hi]
  by_cases c3 : 0 < at0 ws i ∧ 0 < (sprK t ws i).2
  · rw [if_pos ⟨hi, c3⟩, if_pos c3]
  · rw [if_neg (fun x => c3 x.2), if_neg c3]
theorem spL_nonneg {t : Int} {ws : List Int} (ht : 0 ≤ t) (h0 : ∀ i, 0 ≤ at0 ws i) (i : Nat) : 0 ≤ at0 (spL t ws) i := (spr_ok ht h0 ws.length (Nat.le_refl _)).pos i
theorem spL_zero {t : Int} {ws : List Int} (ht : 0 ≤ t) (h0 : ∀ i, 0 ≤ at0 ws i) {i : Nat} (hz : at0 ws i = 0) : at0 (spL t ws) i = 0 := by
  by_cases hi : i < ws.length
  · rw [spL_at ht h0 hi, hz, if_neg (fun x => by omega), part4]
    simp
  · exact at0_ge (by rw [spL_len ht h0]; omega)
/-- who has no less weight has no fewer seats but one -/
theorem spL_fair {t : Int} {ws : List Int} (ht : 0 ≤ t) (h0 : ∀ i, 0 ≤ at0 ws i) {a b : Nat} (ha : a < ws.length) (hb : b < ws.length) (hab : at0 ws b ≤ at0 ws a) : at0 (spL t ws) b - 1 ≤ at0 (spL t ws) a := by
  rw [spL_at ht h0 ha, spL_at ht h0 hb]
  have h1 : part4 t (tot ws) (at0 ws b) ≤ part4 t (tot ws) (at0 ws a) := by
    unfold part4
    split
    · rename_i c
      exact Int.ediv_le_ediv c (Int.mul_le_mul_of_nonneg_left hab ht)
    · exact Int.le_refl _
  split <;> split <;> omega
/-! ### who sits -/
def whoK (gs : List Int) : Nat → List Int
  | 0 => []
  | k + 1 => whoK gs k ++ List.replicate (at0 gs k).toNat (k : Int)
def whoL (gs : List Int) : List Int := whoK gs gs.length
theorem whoK_len {gs : List Int} (h0 : ∀ i, 0 ≤ at0 gs i) : ∀ k, ((whoK gs k).length : Int) = sumK gs k
  | 0 => rfl
  | k + 1 => by
    have ih := whoK_len h0 k
    have := h0 k
    rw [whoK, sumK, List.length_append, List.length_replicate]
    omega
theorem whoK_mem {gs : List Int} {x : Int} : ∀ k, x ∈ whoK gs k → ∃ j : Nat, x = j ∧ j < k ∧ 0 < at0 gs j
  | 0, h => by cases h
  | k + 1, h => by
    rw [whoK] at h
    rcases List.mem_append.1 h with h | h
    · obtain ⟨j, a, b, c⟩ := whoK_mem k h
      exact ⟨j, a, by omega, c⟩
    · obtain ⟨h1, h2⟩ := List.mem_replicate.1 h
      exact ⟨k, h2, by omega, by omega⟩
theorem whoK_count {gs : List Int} (j : Nat) : ∀ k, (whoK gs k).count (j : Int) = if j < k then (at0 gs j).toNat else 0
  | 0 => rfl
  | k + 1 => by
    rw [whoK, List.count_append, whoK_count j k, List.count_replicate]
    by_cases c : j < k
    · rw [if_pos c, if_pos (show j < k + 1 by omega), if_neg (show ¬ (((k : Int) == (j : Int)) = true) by rw [beq_iff_eq]; omega)]
      omega
    · by_cases c2 : k = j
      · subst c2
        rw [if_neg c, if_pos (show k < k + 1 by omega), if_pos (show ((k : Int) == (k : Int)) = true by simp)]
        omega
      · rw [if_neg c, if_neg (show ¬ j < k + 1 by omega), if_neg (show ¬ (((k : Int) == (j : Int)) = true) by rw [beq_iff_eq]; omega)]
def sitL (seed : Int) (gs : List Int) : List Int := (ordL seed (whoL gs).length).map fun i => at0 (whoL gs) i.toNat
theorem sitL_len (seed : Int) (gs : List Int) : (sitL seed gs).length = (whoL gs).length := by rw [sitL, List.length_map, ordL_len]
theorem iota_map (xs : List Int) : (iota xs.length).map (fun i => at0 xs i.toNat) = xs := by
  refine at0_ext (by simp [iota]) fun j hj => ?_
  have hj' : j < (iota xs.length).length := by simpa using hj
  rw [at0_mapI _ _ hj', iota_at (by simpa [iota] using hj)]
  rfl
theorem sitL_perm (seed : Int) (gs : List Int) : (sitL seed gs).Perm (whoL gs) := by
  have := (ordL_perm seed (whoL gs).length).map fun i => at0 (whoL gs) i.toNat
  rwa [iota_map] at this
theorem sitL_at (seed : Int) (gs : List Int) {i : Nat} (hi : i < (whoL gs).length) : at0 (sitL seed gs) i = at0 (whoL gs) (at0 (ordL seed (whoL gs).length) i).toNat := by
  rw [sitL, at0_mapI _ _ (by rw [ordL_len]; exact hi)]
theorem sitL_mem {seed : Int} {gs : List Int} {x : Int} (hx : x ∈ sitL seed gs) : ∃ j : Nat, x = j ∧ j < gs.length ∧ 0 < at0 gs j := whoK_mem _ ((sitL_perm seed gs).mem_iff.1 hx)
theorem sitL_count (seed : Int) (gs : List Int) {j : Nat} (hj : j < gs.length) : (sitL seed gs).count (j : Int) = (at0 gs j).toNat := by
  rw [(sitL_perm seed gs).count_eq, whoL, whoK_count, if_pos hj]
end Go.X

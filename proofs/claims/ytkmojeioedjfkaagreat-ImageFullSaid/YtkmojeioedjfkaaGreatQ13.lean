/- Lemmas and contracts for a statement about the given program. Conditions: as each says. -/
import Derived.Test.YtkmojeioedjfkaaGreatQ09
set_option linter.unusedVariables false
set_option linter.unusedSimpArgs false
set_option maxHeartbeats 12800000
set_option maxRecDepth 20000
namespace Go.X
open Go.RowKit Go.Proofs Go.Bl
variable {L : Own} {h : PH} {K : PK}
abbrev rO (br : Nat) (v : Value) (s : Nat × Int) (L : Own) : Own := ⟨br, 214, [v, .int .i64 s.2, .int .i64 s.1], 3⟩ :: L
theorem open_any {xs : List Int} (v : Value) (hx : Ints h .u8 v xs) (hl : xs.length ≤ 1000000) (hk : ∀ h' b r, PH.le h h' → Ints h' .u8 r xs → K (.pointer (some ⟨b, 0, none⟩)) (rO b r (0, 0) L) h') :
  Spec Tryz.prog 34 [v] L h K := by
 have ox := hx.open
 obtain ⟨a, ca, rfl, _⟩ := ox
 refine x_enter Tryz.func34 rfl (rs := [_]) rfl rfl mixed (by kernel_rfl) rfl rfl ?_
 simp -dsimp -implicitDefEqProofs (disch := first|with_reducible assumption|omega) [go_sem]
 refine xappend (t := 38) (e := 5) (sz := 1) (bytes := 1) (z := [.int .u8 0]) (by kernel_rfl) tI_5 rfl rfl rfl rfl (by decide) [] L none 0 [] rfl rfl (Src.known hx.1) (by simp) (ints_one _ _) (by simp [maxLen]; omega) (by omega) ?_
 intro o' j1 j2 j3
 simp only [Nat.zero_add, List.nil_append] at j1 j2 ⊢
 simp -dsimp -implicitDefEqProofs (disch := first|with_reducible assumption|omega) [go_sem]
 refine xnew fun b1 n_b1 h_b1 => ?_
 try simp only [Apart] at n_b1
 simp -dsimp -implicitDefEqProofs (disch := first|with_reducible assumption|omega) [go_sem]
 refine fin_perm oent_perm (fin_pub (n := xs.length) (L0 := L) j1 (by simp) (by omega) j2 fun h' le sl => fin_here (hk h' b1 _ le ⟨sl, hx.2⟩))
theorem vor (n x : Int) (i : Nat) (hi : i ≤ 9) (h0 : 0 ≤ n) (h1 : n < 128 ^ i) (hx : 0 ≤ x ∧ x ≤ 255) (h9 : i = 9 → x ≤ 1) :
  bits .or .u64 n (IntKind.u64.wrap (IntKind.u64.wrap (bits .and .u8 x 127) * 2 ^ (7 * (i : Int)).toNat)) = n + x % 128 * 128 ^ i := by
 obtain ⟨m, rfl⟩ := Int.eq_ofNat_of_zero_le h0
 obtain ⟨y, rfl⟩ := Int.eq_ofNat_of_zero_le hx.1
 have h1' : m < 128 ^ i := by exact_mod_cast h1
 have a1 : bits .and .u8 (y : Int) ((127 : Nat) : Int) = ((y &&& 127 : Nat) : Int) := u8_and_nat y 127 (by omega) (by decide)
 have a2 : y &&& 127 = y % 128 := Nat.and_two_pow_sub_one_eq_mod y 7
 have a3 : bits .and .u8 (y : Int) 127 = ((y % 128 : Nat) : Int) := by rw [← a2]; exact a1
 have a4 : (7 * (i : Int)).toNat = 7 * i := by omega
 have a5 : (2 : Int) ^ (7 * i) = ((128 ^ i : Nat) : Int) := by rw [Int.pow_mul]; push_cast; rfl
 have hb : y % 128 * 128 ^ i ≤ 9223372036854775808 ∧ y % 128 * 128 ^ i + 128 ^ i ≤ 18446744073709551616 := by
  by_cases e : i = 9
  ·subst e
   have := h9 rfl
   have e9 : (128 : Nat) ^ 9 = 9223372036854775808 := by decide
   rw [e9]
   rcases (show y = 0 ∨ y = 1 by omega) with rfl | rfl <;> decide
  ·have hp8 : 128 ^ i ≤ 128 ^ 8 := Nat.pow_le_pow_right (by decide) (by omega)
   have e8 : (128 : Nat) ^ 8 = 72057594037927936 := by decide
   have : y % 128 * 128 ^ i ≤ 127 * 128 ^ 8 := Nat.mul_le_mul (by omega) hp8
   omega
 have w1 : IntKind.u64.wrap ((y % 128 : Nat) : Int) = ((y % 128 : Nat) : Int) := wrap_u64 _ (by omega) (by omega)
 have w2 : IntKind.u64.wrap ((y % 128 * 128 ^ i : Nat) : Int) = ((y % 128 * 128 ^ i : Nat) : Int) := wrap_u64 _ (by omega) (by omega)
 rw [a3, w1, a4, a5, ← Int.natCast_mul, w2, u64_or_nat m _ (by omega) (by omega)]
 have a6 : m ||| y % 128 * 128 ^ i = m + y % 128 * 128 ^ i := by
  have e1 : (128 : Nat) ^ i = 2 ^ (7 * i) := by rw [Nat.pow_mul]
  rw [e1] at h1' ⊢
  have := Nat.shiftLeft_add_eq_or_of_lt h1' (y % 128)
  rw [Nat.shiftLeft_eq] at this
  rw [Nat.or_comm, ← this, Nat.add_comm]
 rw [a6]
 push_cast
 rfl
theorem scan_any {br : Nat} {v : Value} {xs : List Int} {s : Nat × Int} (k : Nat) (hx : Ints h .u8 v xs) (hs : k ≤ xs.length)
  (hk : K (.tuple #[.int .u64 (scanL (xs.drop k) 0 0).2.1, .int .i64 (if (scanL (xs.drop k) 0 0).1 = 0 then k + (scanL (xs.drop k) 0 0).2.2 else 0 : Nat), .int .i64 (scanL (xs.drop k) 0 0).1]) (rO br v s L) h) :
  Spec Tryz.prog 196 [.pointer (some ⟨br, 0, none⟩), .int .i64 k] (rO br v s L) h K := by
 have hb := hx.byte
 have ox := hx.open
 obtain ⟨a, ca, rfl, hn, hc, h0, hcs⟩ := ox
 refine x_enterA Tryz.func196 rfl (rs := [_, _, _]) rfl rfl mixed (by kernel_rfl) rfl rfl fun ap nd => ?_
 obtain ⟨ap1, _⟩ := ap
 simp -dsimp -implicitDefEqProofs (disch := first|with_reducible assumption|omega) [go_sem]
 refine xloop' (γ := Nat × Int) (0, 0) (fun g => g.1 ≤ 9 ∧ 0 ≤ g.2 ∧ g.2 < 128 ^ g.1 ∧ k + g.1 ≤ xs.length ∧ scanL (xs.drop k) 0 0 = scanL (xs.drop (k + g.1)) g.1 g.2)
  (fun g => [(7, .int .i64 g.1), (4, .int .u64 g.2), (0, .pointer (some ⟨br, 0, none⟩)), (1, .int .i64 k)]) (fun g => xs.length - (k + g.1)) ?_ ?_ ?_
 ·exact ⟨by decide, by decide, by decide, by simpa using hs, by simp⟩
 ·simp [Ent, List.lookup, xEnv]
 rintro ⟨i, n⟩ ⟨i1, i2, i3, i4, i5⟩
 simp only at i1 i2 i3 i4 i5 ⊢
 by_cases c1 : xs.length ≤ k + i
 ·have e : scanL (xs.drop k) 0 0 = (50, 0, 0) := by rw [i5, List.drop_eq_nil_of_le c1]; rfl
  rw [e] at hk
  simp -dsimp -implicitDefEqProofs (disch := first|with_reducible assumption|omega) [go_sem]
  exact fin_here hk
 have hd : xs.drop (k + i) = at0 xs (k + i) :: xs.drop (k + (i + 1)) := by
  rw [List.drop_eq_getElem_cons (by omega), at0_lt]; rfl
 have hbb := hb (k + i)
 rw [hd] at i5
 have et : ((k : Int) + (i : Int)).toNat = k + i := by omega
 by_cases c2 : i = 9 ∧ at0 xs (k + i) > 1 ∨ at0 xs (k + i) = 0 ∧ i > 0
 ·have e : scanL (xs.drop k) 0 0 = (51, 0, 0) := by rw [i5]; simp only [scanL]; rw [if_pos c2]
  rw [e] at hk
  rcases (show (i = 9 ∧ 1 < at0 xs (k + i)) ∨ (i = 9 ∧ at0 xs (k + i) = 0) ∨ (¬ i = 9 ∧ at0 xs (k + i) = 0 ∧ 0 < i) by omega) with ⟨g1, g2⟩ | ⟨g1, g2⟩ | ⟨g1, g2, g3⟩
  all_goals
   simp -dsimp -implicitDefEqProofs (disch := first|with_reducible assumption|omega) [go_sem, idx hcs, et]
   exact fin_here hk
 have e2 : scanL (xs.drop k) 0 0 = if at0 xs (k + i) < 128 then (0, n + at0 xs (k + i) % 128 * 128 ^ i, i + 1) else scanL (xs.drop (k + (i + 1))) (i + 1) (n + at0 xs (k + i) % 128 * 128 ^ i) := by
  rw [i5]; simp only [scanL]; rw [if_neg c2]
 by_cases c3 : at0 xs (k + i) < 128
 ·rw [if_pos c3] at e2
  rw [e2] at hk
  rcases (show (i = 9 ∧ at0 xs (k + i) = 1) ∨ (¬ i = 9 ∧ at0 xs (k + i) = 0 ∧ i = 0) ∨ (¬ i = 9 ∧ 0 < at0 xs (k + i)) by omega) with ⟨g1, g2⟩ | ⟨g1, g2, g3⟩ | ⟨g1, g2⟩
  all_goals
   simp -dsimp -implicitDefEqProofs (disch := first|with_reducible assumption|omega) [go_sem, idx hcs, et]
   rw [vor n _ i i1 i2 i3 hbb (fun h => by omega)]
   rw [if_pos rfl] at hk
   simp only at hk
   rw [show ((k + (i + 1) : Nat) : Int) = (k : Int) + i + 1 by omega] at hk
   exact fin_here hk
 ·rw [if_neg c3] at e2
  have g1 : ¬ i = 9 := by omega
  simp -dsimp -implicitDefEqProofs (disch := first|with_reducible assumption|omega) [go_sem, idx hcs, et]
  rw [vor n _ i i1 i2 i3 hbb (fun h => by omega)]
  have hp : (0 : Int) ≤ at0 xs (k + i) % 128 * 128 ^ i := Int.mul_nonneg (by omega) (Int.pow_nonneg (by decide))
  have hq : n + at0 xs (k + i) % 128 * 128 ^ i < 128 ^ (i + 1) := by
   rw [Int.pow_succ]
   have : at0 xs (k + i) % 128 * 128 ^ i ≤ 127 * 128 ^ i := Int.mul_le_mul_of_nonneg_right (by omega) (Int.pow_nonneg (by decide))
   omega
  exact ⟨i + 1, n + at0 xs (k + i) % 128 * 128 ^ i, ⟨by omega, by omega, hq, by omega, by rw [e2]⟩, by omega, by simp [Ent, List.lookup], Drop.refl _ _⟩
theorem rnum_any {br : Nat} {v : Value} {xs : List Int} {s : Nat × Int} {most : Int} (hx : Ints h .u8 v xs) (hs : s.1 ≤ xs.length) (hk : K (.int .u64 (rNum xs s most).1) (rO br v (rNum xs s most).2 L) h) :
  Spec Tryz.prog 195 [.pointer (some ⟨br, 0, none⟩), .int .u64 most] (rO br v s L) h K := by
 have ox := hx.open
 obtain ⟨a, ca, rfl, hn, _⟩ := ox
 obtain ⟨k, e⟩ := s
 simp only [rO] at hs hk ⊢
 refine x_enterA Tryz.func195 rfl (rs := [_]) rfl rfl mixed (by kernel_rfl) rfl rfl fun ap nd => ?_
 obtain ⟨ap1, _⟩ := ap
 simp -dsimp -implicitDefEqProofs (disch := first|with_reducible assumption|omega) [go_sem]
 refine good_any ?_
 by_cases c : e = 0
 ·subst c
  simp -dsimp -implicitDefEqProofs (disch := first|with_reducible assumption|omega) [go_sem]
  refine scan_any (s := (k, 0)) k hx hs ?_
  have hr : rNum xs (k, 0) most = if (scanL (xs.drop k) 0 0).1 ≠ 0 then (0, (k, (scanL (xs.drop k) 0 0).1)) else if (scanL (xs.drop k) 0 0).2.1 > most then (0, (k, 51)) else ((scanL (xs.drop k) 0 0).2.1, (k + (scanL (xs.drop k) 0 0).2.2, 0)) := by simp [rNum]
  rw [hr] at hk
  generalize scanL (xs.drop k) 0 0 = z at hk ⊢
  obtain ⟨z1, z2, z3⟩ := z
  simp only at hk ⊢
  by_cases d1 : z1 = 0
  ·subst d1
   simp only [ne_eq, not_true_eq_false, if_false, if_true] at hk ⊢
   by_cases d2 : z2 > most
   ·rw [if_pos d2] at hk
    simp -dsimp -implicitDefEqProofs (disch := first|with_reducible assumption|omega) [go_sem]
    refine fail_any ?_
    simp -dsimp -implicitDefEqProofs (disch := first|with_reducible assumption|omega) [go_sem]
    exact fin_here hk
   ·rw [if_neg d2] at hk
    simp -dsimp -implicitDefEqProofs (disch := first|with_reducible assumption|omega) [go_sem]
    exact fin_here (by simpa using hk)
  ·rw [if_pos d1] at hk
   rw [if_neg d1]
   simp -dsimp -implicitDefEqProofs (disch := first|with_reducible assumption|omega) [go_sem]
   refine fail_any ?_
   simp -dsimp -implicitDefEqProofs (disch := first|with_reducible assumption|omega) [go_sem]
   exact fin_here hk
 ·rw [rNum_stop (by simpa using c)] at hk
  simp -dsimp -implicitDefEqProofs (disch := first|with_reducible assumption|omega) [go_sem]
  exact fin_here hk
theorem rint_any {br : Nat} {v : Value} {xs : List Int} {s : Nat × Int} {most : Int} (hx : Ints h .u8 v xs) (hs : s.1 ≤ xs.length) (h0 : 0 ≤ most) (h1 : most ≤ 9223372036854775807) (hk : K (.int .i64 (rNum xs s most).1) (rO br v (rNum xs s most).2 L) h) :
  Spec Tryz.prog 156 [.pointer (some ⟨br, 0, none⟩), .int .i64 most] (rO br v s L) h K := by
 have hz : ∀ z ∈ xs, 0 ≤ z ∧ z ≤ 255 := fun z hz => by
  have := hx.2 z hz
  rwa [show IntKind.u8.min = 0 by decide, show IntKind.u8.max = 255 by decide] at this
 have hp := rNum_pos xs s most hz hs h0
 refine x_enterA Tryz.func156 rfl (rs := [_]) rfl rfl mixed (by kernel_rfl) rfl rfl fun ap nd => ?_
 simp -dsimp -implicitDefEqProofs (disch := first|with_reducible assumption|omega) [go_sem]
 refine rnum_any hx hs ?_
 simp -dsimp -implicitDefEqProofs (disch := first|with_reducible assumption|omega) [go_sem]
 exact fin_here hk
theorem rerr_any {br : Nat} {v : Value} {s : Nat × Int} (hk : K (.int .i64 s.2) (rO br v s L) h) :
  Spec Tryz.prog 35 [.pointer (some ⟨br, 0, none⟩)] (rO br v s L) h K := by
 refine x_enterA Tryz.func35 rfl (rs := [_]) rfl rfl mixed (by kernel_rfl) rfl rfl fun ap nd => ?_
 obtain ⟨ap1, _⟩ := ap
 simp -dsimp -implicitDefEqProofs (disch := first|with_reducible assumption|omega) [go_sem]
 exact fin_here hk
theorem rdone_any {br : Nat} {v : Value} {xs : List Int} {s : Nat × Int} (hx : Ints h .u8 v xs) (hk : K (.int .i64 (rDone xs s)) (rO br v s L) h) :
  Spec Tryz.prog 36 [.pointer (some ⟨br, 0, none⟩)] (rO br v s L) h K := by
 have ox := hx.open
 obtain ⟨a, ca, rfl, hn, _⟩ := ox
 refine x_enterA Tryz.func36 rfl (rs := [_]) rfl rfl mixed (by kernel_rfl) rfl rfl fun ap nd => ?_
 obtain ⟨ap1, _⟩ := ap
 unfold rDone at hk
 simp -dsimp -implicitDefEqProofs (disch := first|with_reducible assumption|omega) [go_sem]
 refine xdraw (by kernel_rfl) rfl ?_
 simp -dsimp -implicitDefEqProofs (disch := first|with_reducible assumption|omega) [go_sem]
 refine xdcall _ (good_any ⟨rfl, rfl, rfl⟩) ?_
 by_cases c : s.2 = 0
 ·by_cases d : s.1 < xs.length
  ·simp -dsimp -implicitDefEqProofs (disch := first|with_reducible assumption|omega) [go_sem]
   exact fin_here (by simpa [c, d] using hk)
  ·simp -dsimp -implicitDefEqProofs (disch := first|with_reducible assumption|omega) [go_sem]
   exact fin_here (by simpa [c, d] using hk)
 ·simp -dsimp -implicitDefEqProofs (disch := first|with_reducible assumption|omega) [go_sem]
  exact fin_here (by simpa [c] using hk)
theorem rraw_any {br : Nat} {v : Value} {xs : List Int} {s : Nat × Int} {most : Int} (hx : Ints h .u8 v xs) (hs : s.1 ≤ xs.length) (h0 : 0 ≤ most) (h1 : most ≤ 1000000)
  (hk : ∀ h' r, PH.le h h' → Ints h' .u8 r (rRaw xs s most).1 → K r (rO br v (rRaw xs s most).2 L) h') :
  Spec Tryz.prog 225 [.pointer (some ⟨br, 0, none⟩), .int .i64 most] (rO br v s L) h K := by
 have hz : ∀ z ∈ xs, 0 ≤ z ∧ z ≤ 255 := fun z hz => by
  have := hx.2 z hz
  rwa [show IntKind.u8.min = 0 by decide, show IntKind.u8.max = 255 by decide] at this
 have hp := rNum_pos xs s most hz hs h0
 have ox := hx.open
 obtain ⟨a, ca, rfl, hn, hc, _⟩ := ox
 obtain ⟨k, e⟩ := s
 simp only [rO] at hs hk ⊢
 refine x_enterA Tryz.func225 rfl (rs := [_]) rfl rfl mixed (by kernel_rfl) rfl rfl fun ap nd => ?_
 obtain ⟨ap1, _⟩ := ap
 simp -dsimp -implicitDefEqProofs (disch := first|with_reducible assumption|omega) [go_sem]
 refine good_any ?_
 by_cases c : e = 0
 ·subst c
  simp -dsimp -implicitDefEqProofs (disch := first|with_reducible assumption|omega) [go_sem]
  refine rint_any (s := (k, 0)) hx hs h0 (by omega) ?_
  have hr : rRaw xs (k, 0) most = if (rNum xs (k, 0) most).2.2 ≠ 0 then ([], (rNum xs (k, 0) most).2) else if ((xs.length - (rNum xs (k, 0) most).2.1 : Nat) : Int) < (rNum xs (k, 0) most).1 then ([], (k, 50)) else ((xs.drop (rNum xs (k, 0) most).2.1).take (rNum xs (k, 0) most).1.toNat, ((rNum xs (k, 0) most).2.1 + (rNum xs (k, 0) most).1.toNat, 0)) := by simp [rRaw]
  rw [hr] at hk
  generalize rNum xs (k, 0) most = z at hk hp ⊢
  obtain ⟨n, j, e⟩ := z
  simp only at hk hp ⊢
  simp -dsimp -implicitDefEqProofs (disch := first|with_reducible assumption|omega) [go_sem]
  refine good_any ?_
  by_cases d1 : e = 0
  ·subst d1
   simp only [ne_eq, not_true_eq_false, if_false] at hk
   simp -dsimp -implicitDefEqProofs (disch := first|with_reducible assumption|omega) [go_sem]
   refine xdraw (by kernel_rfl) rfl ?_
   simp -dsimp -implicitDefEqProofs (disch := first|with_reducible assumption|omega) [go_sem]
   by_cases d2 : ((xs.length - j : Nat) : Int) < n
   ·rw [if_pos d2] at hk
    simp -dsimp -implicitDefEqProofs (disch := first|with_reducible assumption|omega) [go_sem]
    refine fail_any ?_
    simp -dsimp -implicitDefEqProofs (disch := first|with_reducible assumption|omega) [go_sem]
    exact fin_here (hk h _ (PH.le_refl h) (nil_ints h .u8))
   ·rw [if_neg d2] at hk
    obtain ⟨m, rfl⟩ := Int.eq_ofNat_of_zero_le hp.2.1
    have hpart := hx.part j (j + m) (by omega) (by omega)
    have e1 : ((j : Int) + (m : Int)).toNat = j + m := by omega
    have e2 : j + m - j = m := by omega
    have hml : ((xs.drop j).take m).length = m := by simp; omega
    simp only [Int.toNat_natCast] at hk
    simp -dsimp -implicitDefEqProofs (disch := first|with_reducible assumption|omega) [go_sem]
    refine xanyl (.tk 0 (.tk 1 (.tk 2 (.tk 3 (.tk 5 (.tk 6 (.tk 7 (.tk 9 (.tk 10 (.tk 11 (.tk 13 (.tkl 4 (.tkl 8 (.tkl 12 (.tk 14 (.tk 15 (.or true 16 (.tk 17 (.fin)) (.nil)))))))))))))))))) (by kernel_rfl) (by kernel_rfl) _ (Drop.refl _ _) ?_
    simp -dsimp -implicitDefEqProofs (disch := first|with_reducible assumption|omega) [go_sem]
    rw [e1, e2]
    refine xappend (t := 38) (e := 5) (sz := 1) (bytes := 1) (z := [.int .u8 0]) (by kernel_rfl) tI_5 rfl rfl rfl rfl (by decide) [] _ none 0 [] rfl rfl (m := m) (news := ((xs.drop j).take m).map (.int .u8)) (by have := Src.known (L := rO br (.slice a xs.length ca) (j, 0) L) hpart.1; rwa [e2, hml] at this) (by simp; omega) (ints_one _ _) (by simp only [maxLen]; omega) (by omega) ?_
    intro o2 j1 j2 j3
    simp only [Nat.zero_add, List.nil_append] at j1 j2 ⊢
    refine xkp (Drop.oent _ _ _ _ _ _) ?_
    simp -dsimp -implicitDefEqProofs (disch := first|with_reducible assumption|omega) [go_sem, xFind_oent j2.head, xSet_oent j2.head]
    rw [show List.take m (List.drop j (List.map (Value.int .u8) xs)) = ((xs.drop j).take m).map (Value.int .u8) by simp [List.map_take, List.map_drop]]
    refine fin_pub (n := m) j1 (by simp; omega) (by omega) j2 fun h' le sl => fin_here ?_
    have := hk h' (ovs o2 m) le ⟨by rw [hml]; exact sl, fun z hz => hx.2 z (List.mem_of_mem_drop (List.mem_of_mem_take hz))⟩
    rw [Int.natCast_add] at this
    exact this
  ·rw [if_pos d1] at hk
   simp -dsimp -implicitDefEqProofs (disch := first|with_reducible assumption|omega) [go_sem]
   exact fin_here (hk h _ (PH.le_refl h) (nil_ints h .u8))
 ·rw [rRaw_stop (by simpa using c)] at hk
  simp -dsimp -implicitDefEqProofs (disch := first|with_reducible assumption|omega) [go_sem]
  exact fin_here (hk h _ (PH.le_refl h) (nil_ints h .u8))
end Go.X

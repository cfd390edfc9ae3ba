/- Lemmas and contracts for a statement about the given program. Conditions: as each says. -/
import Derived.Shelf.Spec.BitsCarry
import Derived.Test.YtkmojeioedjfkaaGreatQ12
import Derived.Test.YtkmojeioedjfkaaGreatQ19
import Derived.Test.YtkmojeioedjfkaaGreatQ21
import Derived.Test.YtkmojeioedjfkaaGreatQ25
import Derived.Test.YtkmojeioedjfkaaGreatQ26
set_option linter.unusedVariables false
set_option linter.unusedSimpArgs false
set_option maxHeartbeats 12800000
set_option maxRecDepth 20000
namespace Go.X
open Go.RowKit Go.Proofs Go.Bl
variable {L : Own} {h : PH} {K : PK}
theorem sub64_any (x y : Nat) (hk : K (.tuple #[.int .u64 (((x + 18446744073709551616 - y) % 18446744073709551616 : Nat) : Int), .int .u64 ((if x < y then 1 else 0 : Nat) : Int)]) L h) : Spec Tryz.prog 231 [.int .u64 x, .int .u64 y, .int .u64 0] L h K :=
 Spec.extern (fun W => by
  show (callFunc 231 #[.int .u64 x, .int .u64 y, .int .u64 ((0 : Nat) : Int)]).run Tryz.prog W = _
  rw [run_callFunc_extern Tryz.func231 (by kernel_rfl) (by kernel_rfl) (by kernel_rfl) (e := sub64Entry) (by kernel_rfl), run_sub64 x y 0 (by decide)]
  rfl) hk
theorem msub_any (x y : Int) (hx : 0 ≤ x ∧ x ≤ 18446744073709551615) (hy : 0 ≤ y ∧ y ≤ 18446744073709551615) (hk : K (if y ≤ x then .tuple #[.int .u64 (x - y), .int .i64 0] else .tuple #[.int .u64 0, .int .i64 11]) L h) : Spec Tryz.prog 206 [.int .u64 x, .int .u64 y] L h K := by
 obtain ⟨m, rfl⟩ := Int.eq_ofNat_of_zero_le hx.1
 obtain ⟨n, rfl⟩ := Int.eq_ofNat_of_zero_le hy.1
 refine x_enter Tryz.func206 rfl (rs := [_, _]) rfl rfl mixed (by kernel_rfl) rfl rfl ?_
 simp -dsimp -implicitDefEqProofs (disch := first|with_reducible assumption|omega) [go_sem]
 refine sub64_any m n ?_
 by_cases c : (n : Int) ≤ m
 ·rw [if_pos c] at hk
  have e1 : (((m + 18446744073709551616 - n) % 18446744073709551616 : Nat) : Int) = m - n := by omega
  rw [e1, if_neg (by omega)]
  simp -dsimp -implicitDefEqProofs (disch := first|with_reducible assumption|omega) [go_sem]
  exact fin_here hk
 ·rw [if_neg c] at hk
  rw [if_pos (by omega)]
  simp -dsimp -implicitDefEqProofs (disch := first|with_reducible assumption|omega) [go_sem]
  exact fin_here hk
def inP (xs : List Int) (i : Int) : Bool := decide (0 ≤ i) && decide (i < xs.length)
theorem thereP {xs : List Int} (v : Value) (hx : Ints h .u64 v xs) (i : Int) (hk : K (.bool (inP xs i)) L h) : Spec Tryz.prog 203 [v, .int .i64 i] L h K := by
 obtain ⟨a, c, rfl, _, hl, _⟩ := hx.open
 unfold inP at hk
 refine x_enter Tryz.func203 rfl (rs := [_]) rfl rfl mixed (by kernel_rfl) rfl rfl ?_
 by_cases c1 : 0 ≤ i
 ·simp -dsimp -implicitDefEqProofs (disch := first|with_reducible assumption|omega) [go_sem]
  exact fin_here (by simpa [c1] using hk)
 ·simp -dsimp -implicitDefEqProofs (disch := first|with_reducible assumption|omega) [go_sem]
  exact fin_here (by simpa [c1] using hk)
theorem hasP {xs : List Int} (v : Value) (hx : Ints h .u64 v xs) (i : Int) (hk : K (if inP xs i then .tuple #[.int .u64 (at0 xs i.toNat), .int .i64 0] else .tuple #[.int .u64 0, .int .i64 170]) L h) : Spec Tryz.prog 205 [v, .int .i64 i] L h K := by
 have hx0 := hx
 obtain ⟨a, c, rfl, _, hl, _, hcs⟩ := hx.open
 refine x_enter Tryz.func205 rfl (rs := [_, _]) rfl rfl mixed (by kernel_rfl) rfl rfl ?_
 simp -dsimp -implicitDefEqProofs (disch := first|with_reducible assumption|omega) [go_sem]
 refine thereP _ hx0 i ?_
 cases c1 : inP xs i with
 | true =>
  rw [c1] at hk
  simp only [inP, Bool.and_eq_true, decide_eq_true_eq] at c1
  obtain ⟨m, rfl⟩ := Int.eq_ofNat_of_zero_le c1.1
  simp only [if_true, Int.toNat_natCast] at hk
  simp -dsimp -implicitDefEqProofs (disch := first|with_reducible assumption|omega) [go_sem, idx hcs]
  exact fin_here hk
 | false =>
  rw [c1] at hk
  simp -dsimp -implicitDefEqProofs (disch := first|with_reducible assumption|omega) [go_sem]
  exact fin_here (by simpa using hk)
theorem withP {xs : List Int} (v : Value) (hx : Ints h .u64 v xs) (hl : xs.length ≤ 1000) (i : Nat) (hi : i < xs.length) (n : Int) (hn : 0 ≤ n ∧ n ≤ 18446744073709551615) (hk : ∀ h' r, PH.le h h' → Ints h' .u64 r (xs.set i n) → K r L h') : Spec Tryz.prog 207 [v, .int .i64 i, .int .u64 n] L h K := by
 have hx0 := hx
 have hxw := hx.word
 obtain ⟨a, c, rfl, _, hl2, _, hcs⟩ := hx.open
 refine x_enter Tryz.func207 rfl (rs := [_]) rfl rfl mixed (by kernel_rfl) rfl rfl ?_
 simp -dsimp -implicitDefEqProofs (disch := first|with_reducible assumption|omega) [go_sem]
 refine xMS_full (e := 23) (z := .int .u64 0) (by kernel_rfl) tI_23 rfl rfl .i64 .i64 _ (by omega) (by simp; omega) (by omega) ?_
 simp only [Int.toNat_natCast]
 refine xnew fun b1 n_b1 h_b1 => ?_
 try simp only [Apart] at n_b1
 simp -dsimp -implicitDefEqProofs (disch := first|with_reducible assumption|omega) [go_sem]
 refine xcopy (e := 23) (sz := 1) (by kernel_rfl) tI_23 rfl (Src.known hx0.1) (by simp) (Nat.le_refl _) ?_
 have hw : wr (List.replicate xs.length (Value.int .u64 0)) 0 (xs.map (Value.int .u64)) = xs.map (Value.int .u64) := by
  rw [wr_eq _ _ _ (by simp)]
  simp
 simp -dsimp -implicitDefEqProofs (disch := first|with_reducible assumption|omega) [go_sem, hw, xNth_ints]
 refine ⟨by omega, ?_⟩
 rw [← List.map_set]
 have := fin_pub (K := K) (L := L) (v := .slice (some ⟨b1, 0, none⟩) xs.length xs.length) (e := 23) (sz := 1) (o := some (b1, xs.length)) (n := xs.length) (xs := (xs.set i n).map (.int .u64)) (h := h) (L0 := L) ⟨Nat.le_refl _, by simp [maxLen]; omega⟩ (by simp) (by omega) ⟨n_b1, h_b1⟩ fun h' le sl => fin_here (hk h' _ le ⟨by rw [List.length_set]; exact sl, fun z hz => by
  rw [show IntKind.u64.min = 0 by decide, show IntKind.u64.max = 18446744073709551615 by decide]
  rcases List.mem_or_eq_of_mem_set hz with hz | rfl
  ·have := hx0.2 z hz
   rwa [show IntKind.u64.min = 0 by decide, show IntKind.u64.max = 18446744073709551615 by decide] at this
  ·exact hn⟩)
 simpa only [oent, Nat.mul_one] using this
def drawP (xs : List Int) (i a : Int) : List Int × Int := if inP xs i then (if a ≤ at0 xs i.toNat then (xs.set i.toNat (at0 xs i.toNat - a), 0) else ([], 171)) else ([], 170)
def payP (xs : List Int) (i a : Int) : List Int × Int := if inP xs i then (if at0 xs i.toNat + a ≤ 4611686018427387904 then (xs.set i.toNat (at0 xs i.toNat + a), 0) else ([], 10)) else ([], 170)
def moveP (xs : List Int) (f t a : Int) : List Int × Int := if inP xs f && inP xs t then (if (drawP xs f a).2 = 0 then payP (drawP xs f a).1 t a else ([], (drawP xs f a).2)) else ([], 170)
theorem inP_nat {xs : List Int} {i : Int} (hi : inP xs i = true) : ∃ m : Nat, i = m ∧ m < xs.length := by
 simp only [inP, Bool.and_eq_true, decide_eq_true_eq] at hi
 obtain ⟨m, rfl⟩ := Int.eq_ofNat_of_zero_le hi.1
 exact ⟨m, rfl, by omega⟩
theorem pdraw_any {xs : List Int} (v : Value) (hx : Ints h .u64 v xs) (hl : xs.length ≤ 1000) (i a : Int) (ha : 0 ≤ a ∧ a ≤ 18446744073709551615) (hk : ∀ h' r, PH.le h h' → Ints h' .u64 r (drawP xs i a).1 → K (.tuple #[r, .int .i64 (drawP xs i a).2]) L h') : Spec Tryz.prog 170 [v, .int .i64 i, .int .u64 a] L h K := by
 have hx0 := hx
 have hw := hx.word
 obtain ⟨b, c, rfl, _, hl2, _⟩ := hx.open
 unfold drawP at hk
 refine x_enter Tryz.func170 rfl (rs := [_, _]) rfl rfl mixed (by kernel_rfl) rfl rfl ?_
 simp -dsimp -implicitDefEqProofs (disch := first|with_reducible assumption|omega) [go_sem]
 refine hasP _ hx0 i ?_
 cases c1 : inP xs i with
 | false =>
  rw [c1] at hk
  simp only [Bool.false_eq_true, if_false] at hk ⊢
  simp -dsimp -implicitDefEqProofs (disch := first|with_reducible assumption|omega) [go_sem]
  exact fin_here (hk h _ (PH.le_refl _) (nil_ints h .u64))
 | true =>
  obtain ⟨m, rfl, hm⟩ := inP_nat c1
  rw [c1] at hk
  simp only [if_true, Int.toNat_natCast] at hk ⊢
  have hwm := hw m
  simp -dsimp -implicitDefEqProofs (disch := first|with_reducible assumption|omega) [go_sem]
  refine msub_any (at0 xs m) a hwm ha ?_
  by_cases c2 : a ≤ at0 xs m
  ·rw [if_pos c2] at hk ⊢
   simp -dsimp -implicitDefEqProofs (disch := first|with_reducible assumption|omega) [go_sem]
   refine withP _ hx0 hl m hm _ (by omega) fun h1 r le i1 => ?_
   obtain ⟨ra, rc, rfl, _⟩ := i1.open
   have h2 := hk h1 _ le i1
   rw [List.length_set] at h2
   simp -dsimp -implicitDefEqProofs (disch := first|with_reducible assumption|omega) [go_sem]
   exact fin_here h2
  ·rw [if_neg c2] at hk ⊢
   simp -dsimp -implicitDefEqProofs (disch := first|with_reducible assumption|omega) [go_sem]
   exact fin_here (hk h _ (PH.le_refl _) (nil_ints h .u64))
theorem pay_anyP {xs : List Int} (v : Value) (hx : Ints h .u64 v xs) (hl : xs.length ≤ 1000) (i a : Int) (ha : 0 ≤ a ∧ a ≤ 18446744073709551615) (hk : ∀ h' r, PH.le h h' → Ints h' .u64 r (payP xs i a).1 → K (.tuple #[r, .int .i64 (payP xs i a).2]) L h') : Spec Tryz.prog 204 [v, .int .i64 i, .int .u64 a] L h K := by
 have hx0 := hx
 have hw := hx.word
 obtain ⟨b, c, rfl, _, hl2, _⟩ := hx.open
 unfold payP at hk
 refine x_enter Tryz.func204 rfl (rs := [_, _]) rfl rfl mixed (by kernel_rfl) rfl rfl ?_
 simp -dsimp -implicitDefEqProofs (disch := first|with_reducible assumption|omega) [go_sem]
 refine hasP _ hx0 i ?_
 cases c1 : inP xs i with
 | false =>
  rw [c1] at hk
  simp only [Bool.false_eq_true, if_false] at hk ⊢
  simp -dsimp -implicitDefEqProofs (disch := first|with_reducible assumption|omega) [go_sem]
  exact fin_here (hk h _ (PH.le_refl _) (nil_ints h .u64))
 | true =>
  obtain ⟨m, rfl, hm⟩ := inP_nat c1
  rw [c1] at hk
  simp only [if_true, Int.toNat_natCast] at hk ⊢
  have hwm := hw m
  simp -dsimp -implicitDefEqProofs (disch := first|with_reducible assumption|omega) [go_sem]
  refine madd_any (at0 xs m) a hwm ha ?_
  by_cases c2 : at0 xs m + a ≤ 4611686018427387904
  ·rw [if_pos c2] at hk
   rw [sumV_ok (by omega)]
   simp -dsimp -implicitDefEqProofs (disch := first|with_reducible assumption|omega) [go_sem]
   refine withP _ hx0 hl m hm _ (by omega) fun h1 r le i1 => ?_
   obtain ⟨ra, rc, rfl, _⟩ := i1.open
   have h2 := hk h1 _ le i1
   rw [List.length_set] at h2
   simp -dsimp -implicitDefEqProofs (disch := first|with_reducible assumption|omega) [go_sem]
   exact fin_here h2
  ·rw [if_neg c2] at hk
   by_cases c3 : at0 xs m + a ≤ 18446744073709551615
   ·rw [sumV_ok c3]
    simp -dsimp -implicitDefEqProofs (disch := first|with_reducible assumption|omega) [go_sem]
    exact fin_here (hk h _ (PH.le_refl _) (nil_ints h .u64))
   ·rw [sumV_no c3]
    simp -dsimp -implicitDefEqProofs (disch := first|with_reducible assumption|omega) [go_sem]
    exact fin_here (hk h _ (PH.le_refl _) (nil_ints h .u64))
theorem drawP_len {xs : List Int} {i a : Int} : (drawP xs i a).1.length ≤ xs.length := by
 unfold drawP
 split
 ·split
  ·simp
  ·simp
 ·simp
theorem move_any {xs : List Int} (v : Value) (hx : Ints h .u64 v xs) (hl : xs.length ≤ 1000) (f t a : Int) (ha : 0 ≤ a ∧ a ≤ 18446744073709551615) (hk : ∀ h' r, PH.le h h' → Ints h' .u64 r (moveP xs f t a).1 → K (.tuple #[r, .int .i64 (moveP xs f t a).2]) L h') : Spec Tryz.prog 169 [v, .int .i64 f, .int .i64 t, .int .u64 a] L h K := by
 have hx0 := hx
 obtain ⟨b, c, rfl, _, hl2, _⟩ := hx.open
 unfold moveP at hk
 refine x_enter Tryz.func169 rfl (rs := [_, _]) rfl rfl mixed (by kernel_rfl) rfl rfl ?_
 simp -dsimp -implicitDefEqProofs (disch := first|with_reducible assumption|omega) [go_sem]
 refine thereP _ hx0 f ?_
 cases c1 : inP xs f with
 | false =>
  simp only [c1, Bool.false_and, Bool.false_eq_true, if_false] at hk
  simp -dsimp -implicitDefEqProofs (disch := first|with_reducible assumption|omega) [go_sem]
  exact fin_here (hk h _ (PH.le_refl _) (nil_ints h .u64))
 | true =>
 simp -dsimp -implicitDefEqProofs (disch := first|with_reducible assumption|omega) [go_sem]
 refine thereP _ hx0 t ?_
 cases c2 : inP xs t with
 | false =>
  simp only [c1, c2, Bool.and_false, Bool.false_eq_true, if_false] at hk
  simp -dsimp -implicitDefEqProofs (disch := first|with_reducible assumption|omega) [go_sem]
  exact fin_here (hk h _ (PH.le_refl _) (nil_ints h .u64))
 | true =>
 simp only [c1, c2, Bool.and_self, if_true] at hk
 simp -dsimp -implicitDefEqProofs (disch := first|with_reducible assumption|omega) [go_sem]
 refine pdraw_any _ hx0 hl f a ha fun h1 r le1 i1 => ?_
 have hdl := drawP_len (xs := xs) (i := f) (a := a)
 obtain ⟨q, eq⟩ : ∃ q, q = drawP xs f a := ⟨_, rfl⟩
 rw [← eq] at i1 hdl hk ⊢
 obtain ⟨ys, e⟩ := q
 simp only at i1 hdl hk ⊢
 have i10 := i1
 obtain ⟨ra, rc, rfl, _⟩ := i1.open
 by_cases c3 : e = 0
 ·rw [if_pos c3] at hk
  subst c3
  simp -dsimp -implicitDefEqProofs (disch := first|with_reducible assumption|omega) [go_sem]
  refine pay_anyP _ i10 (by omega) t a ha fun h2 r2 le2 i2 => ?_
  have h3 := hk h2 r2 (le1.trans le2) i2
  obtain ⟨sa, sc, rfl, _⟩ := i2.open
  simp -dsimp -implicitDefEqProofs (disch := first|with_reducible assumption|omega) [go_sem]
  exact fin_here h3
 ·rw [if_neg c3] at hk
  simp -dsimp -implicitDefEqProofs (disch := first|with_reducible assumption|omega) [go_sem]
  exact fin_here (hk h1 _ le1 (nil_ints h1 .u64))
theorem change_any {xs : List Int} (v : Value) (hx : Ints h .u64 v xs) (hl : xs.length ≤ 1000) (i : Nat) (n : Int) (hn : 0 ≤ n ∧ n ≤ 18446744073709551615) (hk : ∀ h' r, PH.le h h' → Ints h' .u64 r (xs.set i n) → K r L h') : Spec Tryz.prog 140 [v, .int .i64 i, .int .u64 n] L h K := by
 have hx0 := hx
 have hw := hx.word
 obtain ⟨a, c, rfl, _, hl2, _, hcs⟩ := hx.open
 have hbd : ∀ z ∈ xs.set i n, IntKind.u64.min ≤ z ∧ z ≤ IntKind.u64.max := fun z hz => by
  rw [show IntKind.u64.min = 0 by decide, show IntKind.u64.max = 18446744073709551615 by decide]
  rcases List.mem_or_eq_of_mem_set hz with hz | rfl
  ·have := hx0.2 z hz
   rwa [show IntKind.u64.min = 0 by decide, show IntKind.u64.max = 18446744073709551615 by decide] at this
  ·exact hn
 have hel : ∀ k (hk : k < (xs.set i n).length), (xs.set i n)[k] = if k = i then n else at0 xs k := fun k hk => by
  have hk' : k < xs.length := by rw [List.length_set] at hk; exact hk
  by_cases e : k = i
  ·subst e; simp
  ·rw [List.getElem_set_ne (by omega), at0_lt hk', if_neg e]
 have hys : (xs.set i n).length = xs.length := List.length_set
 obtain ⟨ys, ey⟩ : ∃ ys, ys = xs.set i n := ⟨_, rfl⟩
 rw [← ey] at hbd hys hk
 have hel : ∀ k (hk : k < ys.length), ys[k] = if k = i then n else at0 xs k := by subst ey; exact hel
 clear ey
 refine x_enter Tryz.func140 rfl (rs := [_]) rfl rfl mixed (by kernel_rfl) rfl rfl ?_
 simp -dsimp -implicitDefEqProofs (disch := first|with_reducible assumption|omega) [go_sem]
 refine xloop (γ := Nat × Option (Nat × Nat) × List Int) (0, none, [])
  (fun x => x.1 ≤ xs.length ∧ okO x.2.1 x.1 ∧ apO x.2.1 L h ∧ x.2.2 = ys.take x.1)
  (fun x => [(8, .int .i64 x.1), (7, ovs x.2.1 x.1), (0, .slice a xs.length c), (1, .int .i64 i), (2, .int .u64 n)])
  (fun x => oent 23 1 x.2.1 (x.2.2.map (.int .u64)) L) (fun _ => h) (fun x => xs.length - x.1) ?_ ?_ ?_ ?_
 ·exact ⟨Nat.zero_le _, rfl, trivial, rfl⟩
 ·simp [Ent, List.lookup, xEnv, ovs]
 ·exact Drop.refl _ _
 rintro ⟨k, o, B⟩ ⟨i1, i2, i3, i4⟩
 simp only at i1 i2 i3 i4 ⊢
 by_cases c1 : k < xs.length
 ·have hls : k < ys.length := by omega
  have hek := hel k hls
  have et : ys.take (k + 1) = B ++ [ys[k]] := by rw [i4, List.take_succ_eq_append_getElem hls]
  have hlt : (B.map (Value.int .u64)).length = k * 1 := by rw [i4]; simp; omega
  clear i4
  by_cases c2 : k = i
  ·rw [hek, if_pos c2] at et
   simp -dsimp -implicitDefEqProofs (disch := first|with_reducible assumption|omega) [go_sem, c2]
   refine xnew fun b5 n_b5 h_b5 => ?_
   try simp only [Apart] at n_b5
   simp -dsimp -implicitDefEqProofs (disch := first|with_reducible assumption|omega) [go_sem]
   subst c2
   refine xappend (t := 26) (e := 23) (sz := 1) (bytes := 8) (by kernel_rfl) tI_23 rfl rfl rfl rfl (by decide) [_] L o k (B.map (.int .u64)) i2 hlt (Src.own List.mem_cons_self) (m := 1) (news := [.int .u64 n]) rfl (by intro u hu; simp only [List.mem_singleton] at hu; subst hu; rfl) (by simp [maxLen]; omega) (by omega) ?_
   intro o' j1 j2 j3
   simp -dsimp -implicitDefEqProofs (disch := first|with_reducible assumption|omega) [go_sem]
   refine ⟨k + 1, o', B ++ [n], ⟨by omega, j1, apO_tail j2, et.symm⟩, by omega, by simp [Ent, List.lookup], ?_⟩
   rw [List.map_append]
   exact Drop.tail _ _ _
  ·rw [hek, if_neg c2] at et
   have c2' : ¬ ((k : Int) = (i : Int)) := by omega
   simp -dsimp -implicitDefEqProofs (disch := first|with_reducible assumption|omega) [go_sem, c2', idx hcs]
   refine xnew fun b5 n_b5 h_b5 => ?_
   try simp only [Apart] at n_b5
   simp -dsimp -implicitDefEqProofs (disch := first|with_reducible assumption|omega) [go_sem]
   refine xappend (t := 26) (e := 23) (sz := 1) (bytes := 8) (by kernel_rfl) tI_23 rfl rfl rfl rfl (by decide) [_] L o k (B.map (.int .u64)) i2 hlt (Src.own List.mem_cons_self) (m := 1) (news := [.int .u64 (at0 xs k)]) rfl (by intro u hu; simp only [List.mem_singleton] at hu; subst hu; rfl) (by simp [maxLen]; omega) (by omega) ?_
   intro o' j1 j2 j3
   simp -dsimp -implicitDefEqProofs (disch := first|with_reducible assumption|omega) [go_sem]
   refine ⟨k + 1, o', B ++ [at0 xs k], ⟨by omega, j1, apO_tail j2, et.symm⟩, by omega, by simp [Ent, List.lookup], ?_⟩
   rw [List.map_append]
   exact Drop.tail _ _ _
 ·have hkl : k = xs.length := by omega
  subst hkl
  have e1 : B = ys := by rw [i4, ← hys, List.take_length]
  subst e1
  simp -dsimp -implicitDefEqProofs (disch := first|with_reducible assumption|omega) [go_sem]
  exact fin_pub (n := xs.length) i2 (by simp; omega) (by omega) i3 fun h' le sl => fin_here (hk h' _ le ⟨by rw [hys]; exact sl, hbd⟩)
theorem inP_false {xs : List Int} {i : Int} (hi : inP xs i = false) : i < 0 ∨ (xs.length : Int) ≤ i := by
 by_cases c : 0 ≤ i
 ·right
  simp only [inP, decide_eq_true c, Bool.true_and, decide_eq_false_iff_not] at hi
  omega
 ·omega
theorem rdraw_any {xs : List Int} (v : Value) (hx : Ints h .u64 v xs) (hl : xs.length ≤ 1000) (i a : Int) (ha : 0 ≤ a ∧ a ≤ 18446744073709551615) (hk : ∀ h' r, PH.le h h' → Ints h' .u64 r (drawP xs i a).1 → K (.tuple #[r, .int .i64 (drawP xs i a).2]) L h') : Spec Tryz.prog 73 [v, .int .i64 i, .int .u64 a] L h K := by
 have hx0 := hx
 have hw := hx.word
 obtain ⟨b, c, rfl, _, hl2, _, hcs⟩ := hx.open
 unfold drawP at hk
 refine x_enter Tryz.func73 rfl (rs := [_, _]) rfl rfl mixed (by kernel_rfl) rfl rfl ?_
 cases c1 : inP xs i with
 | false =>
  rw [c1] at hk
  simp only [Bool.false_eq_true, if_false] at hk
  have h0 := hk h (.slice none 0 0) (PH.le_refl _) (nil_ints h .u64)
  rcases inP_false c1 with c2 | c2
  ·simp -dsimp -implicitDefEqProofs (disch := first|with_reducible assumption|omega) [go_sem]
   exact fin_here h0
  ·simp -dsimp -implicitDefEqProofs (disch := first|with_reducible assumption|omega) [go_sem]
   exact fin_here h0
 | true =>
  obtain ⟨m, rfl, hm⟩ := inP_nat c1
  rw [c1] at hk
  simp only [if_true, Int.toNat_natCast] at hk
  have hwm := hw m
  by_cases c2 : a ≤ at0 xs m
  ·rw [if_pos c2] at hk
   have c3 : ¬ (at0 xs m < a) := by omega
   simp -dsimp -implicitDefEqProofs (disch := first|with_reducible assumption|omega) [go_sem, idx hcs]
   refine change_any _ hx0 hl m (at0 xs m - a) (by omega) fun h1 r le i1 => ?_
   obtain ⟨ra, rc, rfl, _⟩ := i1.open
   have h2 := hk h1 _ le i1
   rw [List.length_set] at h2
   simp -dsimp -implicitDefEqProofs (disch := first|with_reducible assumption|omega) [go_sem]
   exact fin_here h2
  ·rw [if_neg c2] at hk
   have c3 : at0 xs m < a := by omega
   simp -dsimp -implicitDefEqProofs (disch := first|with_reducible assumption|omega) [go_sem, idx hcs]
   exact fin_here (hk h _ (PH.le_refl _) (nil_ints h .u64))
theorem rpay_any {xs : List Int} (v : Value) (hx : Ints h .u64 v xs) (hl : xs.length ≤ 1000) (i a : Int) (ha : 0 ≤ a ∧ a ≤ 18446744073709551615) (hk : ∀ h' r, PH.le h h' → Ints h' .u64 r (payP xs i a).1 → K (.tuple #[r, .int .i64 (payP xs i a).2]) L h') : Spec Tryz.prog 138 [v, .int .i64 i, .int .u64 a] L h K := by
 have hx0 := hx
 have hw := hx.word
 obtain ⟨b, c, rfl, _, hl2, _, hcs⟩ := hx.open
 unfold payP at hk
 refine x_enter Tryz.func138 rfl (rs := [_, _]) rfl rfl mixed (by kernel_rfl) rfl rfl ?_
 cases c1 : inP xs i with
 | false =>
  rw [c1] at hk
  simp only [Bool.false_eq_true, if_false] at hk
  have h0 := hk h (.slice none 0 0) (PH.le_refl _) (nil_ints h .u64)
  rcases inP_false c1 with c2 | c2
  ·simp -dsimp -implicitDefEqProofs (disch := first|with_reducible assumption|omega) [go_sem]
   exact fin_here h0
  ·simp -dsimp -implicitDefEqProofs (disch := first|with_reducible assumption|omega) [go_sem]
   exact fin_here h0
 | true =>
  obtain ⟨m, rfl, hm⟩ := inP_nat c1
  rw [c1] at hk
  simp only [if_true, Int.toNat_natCast] at hk
  have hwm := hw m
  by_cases c2 : at0 xs m + a ≤ 4611686018427387904
  ·rw [if_pos c2] at hk
   simp -dsimp -implicitDefEqProofs (disch := first|with_reducible assumption|omega) [go_sem, idx hcs]
   refine change_any _ hx0 hl m (at0 xs m + a) (by omega) fun h1 r le i1 => ?_
   obtain ⟨ra, rc, rfl, _⟩ := i1.open
   have h2 := hk h1 _ le i1
   rw [List.length_set] at h2
   simp -dsimp -implicitDefEqProofs (disch := first|with_reducible assumption|omega) [go_sem]
   exact fin_here h2
  ·rw [if_neg c2] at hk
   have h0 := hk h (.slice none 0 0) (PH.le_refl _) (nil_ints h .u64)
   by_cases c3 : 4611686018427387904 < a
   ·simp -dsimp -implicitDefEqProofs (disch := first|with_reducible assumption|omega) [go_sem, idx hcs]
    exact fin_here h0
   ·by_cases c4 : 4611686018427387904 < at0 xs m
    ·simp -dsimp -implicitDefEqProofs (disch := first|with_reducible assumption|omega) [go_sem, idx hcs]
     exact fin_here h0
    ·simp -dsimp -implicitDefEqProofs (disch := first|with_reducible assumption|omega) [go_sem, idx hcs]
     exact fin_here h0
theorem rmove_any {xs : List Int} (v : Value) (hx : Ints h .u64 v xs) (hl : xs.length ≤ 1000) (f t a : Int) (ha : 0 ≤ a ∧ a ≤ 18446744073709551615) (hk : ∀ h' r, PH.le h h' → Ints h' .u64 r (moveP xs f t a).1 → K (.tuple #[r, .int .i64 (moveP xs f t a).2]) L h') : Spec Tryz.prog 70 [v, .int .i64 f, .int .i64 t, .int .u64 a] L h K := by
 have hx0 := hx
 obtain ⟨b, c, rfl, _, hl2, _⟩ := hx.open
 unfold moveP at hk
 refine x_enter Tryz.func70 rfl (rs := [_, _]) rfl rfl mixed (by kernel_rfl) rfl rfl ?_
 cases c1 : inP xs f with
 | false =>
  simp only [c1, Bool.false_and, Bool.false_eq_true, if_false] at hk
  have h0 := hk h (.slice none 0 0) (PH.le_refl _) (nil_ints h .u64)
  rcases inP_false c1 with c2 | c2
  ·simp -dsimp -implicitDefEqProofs (disch := first|with_reducible assumption|omega) [go_sem]
   exact fin_here h0
  ·simp -dsimp -implicitDefEqProofs (disch := first|with_reducible assumption|omega) [go_sem]
   exact fin_here h0
 | true =>
 obtain ⟨m, rfl, hm⟩ := inP_nat c1
 cases c2 : inP xs t with
 | false =>
  simp only [c1, c2, Bool.and_false, Bool.false_eq_true, if_false] at hk
  have h0 := hk h (.slice none 0 0) (PH.le_refl _) (nil_ints h .u64)
  rcases inP_false c2 with c3 | c3
  ·simp -dsimp -implicitDefEqProofs (disch := first|with_reducible assumption|omega) [go_sem]
   exact fin_here h0
  ·simp -dsimp -implicitDefEqProofs (disch := first|with_reducible assumption|omega) [go_sem]
   exact fin_here h0
 | true =>
 simp only [c1, c2, Bool.and_self, if_true] at hk
 obtain ⟨n, rfl, hn⟩ := inP_nat c2
 simp -dsimp -implicitDefEqProofs (disch := first|with_reducible assumption|omega) [go_sem]
 refine rdraw_any _ hx0 hl m a ha fun h1 r le1 i1 => ?_
 have hdl := drawP_len (xs := xs) (i := m) (a := a)
 obtain ⟨q, eq⟩ : ∃ q, q = drawP xs m a := ⟨_, rfl⟩
 rw [← eq] at i1 hdl hk ⊢
 obtain ⟨ys, e⟩ := q
 simp only at i1 hdl hk ⊢
 have i10 := i1
 obtain ⟨ra, rc, rfl, _⟩ := i1.open
 by_cases c3 : e = 0
 ·rw [if_pos c3] at hk
  subst c3
  simp -dsimp -implicitDefEqProofs (disch := first|with_reducible assumption|omega) [go_sem]
  refine rpay_any _ i10 (by omega) n a ha fun h2 r2 le2 i2 => ?_
  have h3 := hk h2 r2 (le1.trans le2) i2
  obtain ⟨sa, sc, rfl, _⟩ := i2.open
  simp -dsimp -implicitDefEqProofs (disch := first|with_reducible assumption|omega) [go_sem]
  exact fin_here h3
 ·rw [if_neg c3] at hk
  simp -dsimp -implicitDefEqProofs (disch := first|with_reducible assumption|omega) [go_sem]
  exact fin_here (hk h1 _ le1 (nil_ints h1 .u64))
theorem u8or (x y : Int) (hx : 0 ≤ x ∧ x ≤ 255) (hy : 0 ≤ y ∧ y ≤ 255) : (0 ≤ bits .or .u8 x y ∧ bits .or .u8 x y ≤ 255) ∧ ∀ k, k < 8 → (bits .or .u8 x y / 2 ^ k % 2 = 1 ↔ x / 2 ^ k % 2 = 1 ∨ y / 2 ^ k % 2 = 1) := by
 obtain ⟨n, rfl⟩ := Int.eq_ofNat_of_zero_le hx.1
 obtain ⟨m, rfl⟩ := Int.eq_ofNat_of_zero_le hy.1
 have e := u8_or_nat n m (by omega) (by omega)
 have hlt : n ||| m < 2 ^ 8 := Nat.or_lt_two_pow (by omega) (by omega)
 rw [e]
 refine ⟨⟨by omega, by omega⟩, fun k hk => ?_⟩
 have ht : (n ||| m).testBit k = (n.testBit k || m.testBit k) := Nat.testBit_or ..
 simp only [Nat.testBit_eq_decide_div_mod_eq] at ht
 have h2 : ((n ||| m) / 2 ^ k % 2 = 1) ↔ (n / 2 ^ k % 2 = 1 ∨ m / 2 ^ k % 2 = 1) := by
  rw [← decide_eq_true_iff (p := (n ||| m) / 2 ^ k % 2 = 1), ht, Bool.or_eq_true, decide_eq_true_eq, decide_eq_true_eq]
 constructor
 ·intro h1
  rcases h2.1 (by exact_mod_cast h1) with h3 | h3
  ·exact Or.inl (by exact_mod_cast h3)
  ·exact Or.inr (by exact_mod_cast h3)
 ·intro h1
  have := h2.2 (h1.imp (fun h => by exact_mod_cast h) (fun h => by exact_mod_cast h))
  exact_mod_cast this
def orK (xs ys : List Int) (k : Nat) : List Int := (List.range xs.length).map fun j => if j < k then bits .or .u8 (at0 xs j) (at0 ys j) else at0 xs j
theorem orK_len (xs ys : List Int) (k : Nat) : (orK xs ys k).length = xs.length := by simp [orK]
theorem orK_at {xs ys : List Int} {k j : Nat} (hj : j < xs.length) : at0 (orK xs ys k) j = if j < k then bits .or .u8 (at0 xs j) (at0 ys j) else at0 xs j := by
 rw [← at0_lt (by rw [orK_len]; exact hj)]
 simp [orK]
theorem orK_zero (xs ys : List Int) : orK xs ys 0 = xs := by
 apply List.ext_getElem (orK_len _ _ _)
 intro j h1 h2
 simp [orK, at0_lt h2]
theorem orK_set {xs ys : List Int} {k : Nat} : (orK xs ys k).set k (bits .or .u8 (at0 xs k) (at0 ys k)) = orK xs ys (k + 1) := by
 apply List.ext_getElem (by rw [List.length_set, orK_len, orK_len])
 intro j h1 h2
 rw [List.getElem_set]
 split
 ·rename_i e
  subst e
  simp [orK]
 ·rename_i e
  simp only [orK, List.getElem_map, List.getElem_range]
  by_cases c : j < k
  ·rw [if_pos c, if_pos (by omega)]
  ·rw [if_neg c, if_neg (by omega)]
theorem orK_byte {xs ys : List Int} (hx : ∀ i, 0 ≤ at0 xs i ∧ at0 xs i ≤ 255) (hy : ∀ i, 0 ≤ at0 ys i ∧ at0 ys i ≤ 255) (k : Nat) : ∀ z ∈ orK xs ys k, 0 ≤ z ∧ z ≤ 255 := fun z hz => by
 obtain ⟨j, _, rfl⟩ := List.mem_map.1 hz
 split
 ·exact (u8or _ _ (hx j) (hy j)).1
 ·exact hx j
def markP (xs ys : List Int) (n : Int) : List Int × Int := if chkB xs 128 && (decide (0 ≤ n) && decide (n ≤ 128)) && chkB ys n then (orK xs ys ys.length, 0) else ([], 60)
theorem rown_any {xs : List Int} (v : Value) (hx : Ints h .u8 v xs) (hl : xs.length ≤ 1000) (hk : ∀ o, okO o xs.length → apO o L h → K (ovs o xs.length) (oent 5 1 o (xs.map (.int .u8)) L) h) : Spec Tryz.prog 208 [v] L h K := by
 have hx0 := hx
 obtain ⟨a, c, rfl, _⟩ := hx.open
 refine x_enter Tryz.func208 rfl (rs := [_]) rfl rfl mixed (by kernel_rfl) rfl rfl ?_
 simp -dsimp -implicitDefEqProofs (disch := first|with_reducible assumption|omega) [go_sem]
 refine xappend (t := 38) (e := 5) (sz := 1) (bytes := 1) (z := [.int .u8 0]) (by kernel_rfl) tI_5 rfl rfl rfl rfl (by decide) [] _ none 0 [] rfl rfl (Src.known hx0.1) (by simp) (ints_one _ _) (by simp [maxLen]; omega) (by omega) ?_
 intro o k1 k2 k3
 simp only [Nat.zero_add, List.nil_append] at k1 k2 ⊢
 simp -dsimp -implicitDefEqProofs (disch := first|with_reducible assumption|omega) [go_sem]
 exact fin_here (hk o k1 k2)
theorem sizeB_le {n : Int} (h1 : n ≤ 128) : sizeB n ≤ 16 := by
 unfold sizeB
 split <;> omega
theorem mark_any {xs ys : List Int} (v u : Value) (hx : Ints h .u8 v xs) (hy : Ints h .u8 u ys) (n : Int) (hn : -9223372036854775808 ≤ n ∧ n ≤ 9223372036854775807) (hk : ∀ h' r, PH.le h h' → Ints h' .u8 r (markP xs ys n).1 → K (.tuple #[r, .int .i64 (markP xs ys n).2]) L h') : Spec Tryz.prog 171 [v, u, .int .i64 n] L h K := by
 have hx0 := hx
 have hy0 := hy
 have hbx := hx.byte
 have hby := hy.byte
 obtain ⟨a, c, rfl, _, hlx, _, hcx⟩ := hx.open
 obtain ⟨a2, c2, rfl, _, hly, _, hcy⟩ := hy.open
 have bad : (chkB xs 128 && (decide (0 ≤ n) && decide (n ≤ 128)) && chkB ys n) = false → K (.tuple #[.slice none 0 0, .int .i64 60]) L h := fun e => by
  have := hk h (.slice none 0 0) (PH.le_refl _) (by rw [markP, e]; exact nil_ints h .u8)
  rw [markP, e] at this
  exact this
 refine x_enter Tryz.func171 rfl (rs := [_, _]) rfl rfl mixed (by kernel_rfl) rfl rfl ?_
 simp -dsimp -implicitDefEqProofs (disch := first|with_reducible assumption|omega) [go_sem]
 refine rright20_any _ hx0 ?_
 cases q1 : chkB xs 128 with
 | false =>
  have := bad (by rw [q1]; rfl)
  simp -dsimp -implicitDefEqProofs (disch := first|with_reducible assumption|omega) [go_sem]
  exact fin_here this
 | true =>
 by_cases q2 : n < 0
 ·have := bad (by rw [decide_eq_false (p := 0 ≤ n) (by omega)]; simp)
  simp -dsimp -implicitDefEqProofs (disch := first|with_reducible assumption|omega) [go_sem]
  exact fin_here this
 by_cases q3 : 128 < n
 ·have := bad (by rw [decide_eq_false (p := n ≤ 128) (by omega)]; simp)
  simp -dsimp -implicitDefEqProofs (disch := first|with_reducible assumption|omega) [go_sem]
  exact fin_here this
 simp -dsimp -implicitDefEqProofs (disch := first|with_reducible assumption|omega) [go_sem]
 refine chk_any _ n hy0 hn.1 hn.2 ?_
 cases q4 : chkB ys n with
 | false =>
  have := bad (by rw [q4]; simp)
  simp -dsimp -implicitDefEqProofs (disch := first|with_reducible assumption|omega) [go_sem]
  exact fin_here this
 | true =>
 have eM : (chkB xs 128 && (decide (0 ≤ n) && decide (n ≤ 128)) && chkB ys n) = true := by
  rw [q1, q4, decide_eq_true (p := 0 ≤ n) (by omega), decide_eq_true (p := n ≤ 128) (by omega)]; rfl
 rw [markP, eM] at hk
 simp only [if_true] at hk
 have lx : xs.length = 16 := by
  rw [chkB, Bool.and_eq_true, decide_eq_true_eq] at q1
  have h1 := q1.1.2.2
  rw [show sizeB 128 = 16 by decide] at h1
  omega
 have ly : ys.length ≤ 16 := by
  rw [chkB, Bool.and_eq_true, decide_eq_true_eq] at q4
  have h1 := q4.1.2.2
  have h2 := sizeB_le (n := n) (by omega)
  omega
 simp -dsimp -implicitDefEqProofs (disch := first|with_reducible assumption|omega) [go_sem]
 refine rown_any _ hx0 (by omega) fun o k1 k2 => ?_
 cases o with
 | none =>
  have : xs.length = 0 := k1
  omega
 | some p =>
 obtain ⟨b, cap⟩ := p
 simp only [ovs, oent]
 have hb := k2.2
 simp -dsimp -implicitDefEqProofs (disch := first|with_reducible assumption|omega) [go_sem]
 refine xloop (γ := Nat) 0 (fun k => k ≤ ys.length)
  (fun k => [(32, .int .i64 k), (31, .int .i64 ys.length), (30, .slice a2 ys.length c2), (8, .slice (some ⟨b, 0, none⟩) xs.length cap)])
  (fun k => ⟨b, 5, (orK xs ys k).map (.int .u8), cap⟩ :: L) (fun _ => h) (fun k => ys.length - k) ?_ ?_ ?_ ?_
 ·exact Nat.zero_le _
 ·simp [Ent, List.lookup, xEnv]
 ·rw [orK_zero]
  exact Drop.refl _ _
 intro k hk0
 have hlK := orK_len xs ys k
 by_cases c1 : k < ys.length
 ·have ek : at0 (orK xs ys k) k = at0 xs k := by rw [orK_at (by omega), if_neg (Nat.lt_irrefl _)]
  simp -dsimp -implicitDefEqProofs (disch := first|with_reducible assumption|omega) [go_sem, idx hcy, xNth_ints, ek]
  refine ⟨by omega, k + 1, by omega, by omega, by simp [Ent, List.lookup], ?_⟩
  rw [← orK_set, List.map_set]
  exact Drop.refl _ _
 ·have hke : k = ys.length := by omega
  subst hke
  simp -dsimp -implicitDefEqProofs (disch := first|with_reducible assumption|omega) [go_sem]
  have := fin_pub (K := K) (L := L) (v := .tuple #[.slice (some ⟨b, 0, none⟩) xs.length cap, .int .i64 0]) (e := 5) (sz := 1) (o := some (b, cap)) (n := xs.length) (xs := (orK xs ys ys.length).map (.int .u8)) (h := h) (L0 := L) k1 (by simp [orK_len]) (by omega) k2 fun h' le sl => fin_here (hk h' _ le ⟨by rw [orK_len]; exact sl, fun z hz => by
   rw [show IntKind.u8.min = 0 by decide, show IntKind.u8.max = 255 by decide]
   exact orK_byte hbx hby _ z hz⟩)
  simpa only [oent, Nat.mul_one] using this
theorem getB_or {xs ys : List Int} (hx : ∀ i, 0 ≤ at0 xs i ∧ at0 xs i ≤ 255) (hy : ∀ i, 0 ≤ at0 ys i ∧ at0 ys i ≤ 255) (hl : ys.length ≤ xs.length) (i : Nat) : getB (orK xs ys ys.length) i = (getB xs i || getB ys i) := by
 have e8 : ((i : Int) / 8).toNat = i / 8 := by omega
 have em : ((i : Int) % 8).toNat = i % 8 := by omega
 unfold getB
 rw [orK_len, e8, em]
 by_cases c : i / 8 < xs.length
 ·have d1 : decide (0 ≤ (i : Int) ∧ (i : Int) / 8 < xs.length) = true := decide_eq_true ⟨by omega, by omega⟩
  rw [d1, Bool.true_and, Bool.true_and, orK_at c]
  by_cases c2 : i / 8 < ys.length
  ·have d2 : decide (0 ≤ (i : Int) ∧ (i : Int) / 8 < ys.length) = true := decide_eq_true ⟨by omega, by omega⟩
   rw [d2, Bool.true_and, if_pos c2]
   have := (u8or _ _ (hx (i / 8)) (hy (i / 8))).2 (i % 8) (by omega)
   rw [← Bool.decide_or]
   exact decide_eq_decide.2 this
  ·have d2 : decide (0 ≤ (i : Int) ∧ (i : Int) / 8 < ys.length) = false := decide_eq_false (by omega)
   rw [d2, Bool.false_and, Bool.or_false, if_neg c2]
 ·have d1 : decide (0 ≤ (i : Int) ∧ (i : Int) / 8 < xs.length) = false := decide_eq_false (by omega)
  have d2 : decide (0 ≤ (i : Int) ∧ (i : Int) / 8 < ys.length) = false := decide_eq_false (by omega)
  rw [d1, d2]
  rfl
theorem rright20d_any {bs : List Int} (v : Value) (hb : Ints h .u8 v bs) (hk : K (.bool (chkB bs 128)) L h) : Spec Tryz.prog 62 [v] L h K := by
 rw [chk_right _ _ hb.byte] at hk
 have hb0 := hb
 obtain ⟨a, c, rfl, _⟩ := hb.open
 refine x_enter Tryz.func62 rfl (rs := [_]) rfl rfl mixed (by kernel_rfl) rfl rfl ?_
 simp -dsimp -implicitDefEqProofs (disch := first|with_reducible assumption|omega) [go_sem]
 refine rright_any _ 128 hb0 (by decide) (by decide) ?_
 simp -dsimp -implicitDefEqProofs (disch := first|with_reducible assumption|omega) [go_sem]
 exact fin_here hk
theorem rmark_any {xs ys : List Int} (v u : Value) (hx : Ints h .u8 v xs) (hy : Ints h .u8 u ys) (n : Int) (hn : -9223372036854775808 ≤ n ∧ n ≤ 9223372036854775807) (hk : ∀ h' r, PH.le h h' → Ints h' .u8 r (markP xs ys n).1 → K (.tuple #[r, .int .i64 (markP xs ys n).2]) L h') : Spec Tryz.prog 72 [v, u, .int .i64 n] L h K := by
 have hx0 := hx
 have hy0 := hy
 have hbx := hx.byte
 have hby := hy.byte
 obtain ⟨a, c, rfl, _, hlx, _, hcx⟩ := hx.open
 obtain ⟨a2, c2, rfl, _, hly, _, hcy⟩ := hy.open
 have bad : (chkB xs 128 && (decide (0 ≤ n) && decide (n ≤ 128)) && chkB ys n) = false → K (.tuple #[.slice none 0 0, .int .i64 60]) L h := fun e => by
  have := hk h (.slice none 0 0) (PH.le_refl _) (by rw [markP, e]; exact nil_ints h .u8)
  rw [markP, e] at this
  exact this
 refine x_enter Tryz.func72 rfl (rs := [_, _]) rfl rfl mixed (by kernel_rfl) rfl rfl ?_
 simp -dsimp -implicitDefEqProofs (disch := first|with_reducible assumption|omega) [go_sem]
 refine rright20d_any _ hx0 ?_
 cases q1 : chkB xs 128 with
 | false =>
  have := bad (by rw [q1]; rfl)
  simp -dsimp -implicitDefEqProofs (disch := first|with_reducible assumption|omega) [go_sem]
  exact fin_here this
 | true =>
 by_cases q2 : n < 0
 ·have := bad (by rw [decide_eq_false (p := 0 ≤ n) (by omega)]; simp)
  simp -dsimp -implicitDefEqProofs (disch := first|with_reducible assumption|omega) [go_sem]
  exact fin_here this
 by_cases q3 : 128 < n
 ·have := bad (by rw [decide_eq_false (p := n ≤ 128) (by omega)]; simp)
  simp -dsimp -implicitDefEqProofs (disch := first|with_reducible assumption|omega) [go_sem]
  exact fin_here this
 simp -dsimp -implicitDefEqProofs (disch := first|with_reducible assumption|omega) [go_sem]
 refine rright_any _ n hy0 hn.1 hn.2 ?_
 rw [← chk_right _ _ hby]
 cases q4 : chkB ys n with
 | false =>
  have := bad (by rw [q4]; simp)
  simp -dsimp -implicitDefEqProofs (disch := first|with_reducible assumption|omega) [go_sem]
  exact fin_here this
 | true =>
 have eM : (chkB xs 128 && (decide (0 ≤ n) && decide (n ≤ 128)) && chkB ys n) = true := by
  rw [q1, q4, decide_eq_true (p := 0 ≤ n) (by omega), decide_eq_true (p := n ≤ 128) (by omega)]; rfl
 rw [markP, eM] at hk
 simp only [if_true] at hk
 have lx : xs.length = 16 := by
  rw [chkB, Bool.and_eq_true, decide_eq_true_eq] at q1
  have h1 := q1.1.2.2
  rw [show sizeB 128 = 16 by decide] at h1
  omega
 have ly : ys.length ≤ 16 := by
  rw [chkB, Bool.and_eq_true, decide_eq_true_eq] at q4
  have h1 := q4.1.2.2
  have h2 := sizeB_le (n := n) (by omega)
  omega
 simp -dsimp -implicitDefEqProofs (disch := first|with_reducible assumption|omega) [go_sem]
 refine xloop (γ := Nat × Option (Nat × Nat) × List Bool) (0, none, [])
  (fun x => x.1 ≤ 128 ∧ okO x.2.1 x.1 ∧ apO x.2.1 L h ∧ x.2.2 = (List.range x.1).map fun i : Nat => getB xs i || getB ys i)
  (fun x => [(9, .int .i64 x.1), (8, ovs x.2.1 x.1), (0, .slice a xs.length c), (1, .slice a2 ys.length c2)])
  (fun x => oent 4 1 x.2.1 (x.2.2.map .bool) L) (fun _ => h) (fun x => 128 - x.1) ?_ ?_ ?_ ?_
 ·exact ⟨Nat.zero_le _, rfl, trivial, rfl⟩
 ·simp [Ent, List.lookup, xEnv, ovs]
 ·exact Drop.refl _ _
 rintro ⟨k, o, B⟩ ⟨i1, i2, i3, i4⟩
 simp only at i1 i2 i3 i4 ⊢
 have hlB : B.length = k := by rw [i4]; simp
 by_cases c1 : k < 128
 ·simp -dsimp -implicitDefEqProofs (disch := first|with_reducible assumption|omega) [go_sem]
  refine rget_any _ k hx0 (by omega) ?_
  cases g1 : getB xs k with
  | true =>
   simp -dsimp -implicitDefEqProofs (disch := first|with_reducible assumption|omega) [go_sem]
   refine xnew fun b5 n_b5 h_b5 => ?_
   try simp only [Apart] at n_b5
   simp -dsimp -implicitDefEqProofs (disch := first|with_reducible assumption|omega) [go_sem]
   refine xappend (t := 233) (e := 4) (sz := 1) (bytes := 1) (z := [.bool false]) (by kernel_rfl) tI_4 rfl rfl rfl rfl (by decide) [_] L o k (B.map .bool) i2 (by simp [hlB]) (Src.own List.mem_cons_self) (m := 1) (news := [.bool (true)]) rfl (by intro u hu; simp only [List.mem_singleton] at hu; subst hu; rfl) (by simp [maxLen]; omega) (by omega) ?_
   intro o' j1 j2 j3
   simp -dsimp -implicitDefEqProofs (disch := first|with_reducible assumption|omega) [go_sem]
   refine ⟨k + 1, o', B ++ [true], ⟨by omega, j1, apO_tail j2, by rw [i4, List.range_succ, List.map_append]; simp [g1]⟩, by omega, by simp [Ent, List.lookup], ?_⟩
   rw [List.map_append]
   exact Drop.tail _ _ _
  | false =>
   simp -dsimp -implicitDefEqProofs (disch := first|with_reducible assumption|omega) [go_sem]
   refine rget_any _ k hy0 (by omega) ?_
   simp -dsimp -implicitDefEqProofs (disch := first|with_reducible assumption|omega) [go_sem]
   refine xnew fun b5 n_b5 h_b5 => ?_
   try simp only [Apart] at n_b5
   simp -dsimp -implicitDefEqProofs (disch := first|with_reducible assumption|omega) [go_sem]
   refine xappend (t := 233) (e := 4) (sz := 1) (bytes := 1) (z := [.bool false]) (by kernel_rfl) tI_4 rfl rfl rfl rfl (by decide) [_] L o k (B.map .bool) i2 (by simp [hlB]) (Src.own List.mem_cons_self) (m := 1) (news := [.bool (getB ys k)]) rfl (by intro u hu; simp only [List.mem_singleton] at hu; subst hu; rfl) (by simp [maxLen]; omega) (by omega) ?_
   intro o' j1 j2 j3
   simp -dsimp -implicitDefEqProofs (disch := first|with_reducible assumption|omega) [go_sem]
   refine ⟨k + 1, o', B ++ [getB ys k], ⟨by omega, j1, apO_tail j2, by rw [i4, List.range_succ, List.map_append]; simp [g1]⟩, by omega, by simp [Ent, List.lookup], ?_⟩
   rw [List.map_append]
   exact Drop.tail _ _ _
 ·have hke : k = 128 := by omega
  subst hke
  simp -dsimp -implicitDefEqProofs (disch := first|with_reducible assumption|omega) [go_sem]
  refine call_pub (n := 128) i2 (by simp [hlB]) (by omega) i3 fun h1 le1 sl => ?_
  have hB : Bools h1 (ovs o 128) B := by
   unfold Bools
   rw [hlB]
   exact sl
  refine pack_any _ hB (by omega) fun h2 r bs le2 ib lb gb => ?_
  have eb : bs = orK xs ys ys.length := by
   have hr := ib.byte
   refine bits_ext hr (fun i => ?_) (by rw [orK_len, lb, hlB, lx]) fun i hi => ?_
   ·rcases Nat.lt_or_ge i (orK xs ys ys.length).length with hh | hh
    ·rw [← at0_lt hh]
     exact orK_byte hbx hby _ _ (List.getElem_mem hh)
    ·simp [at0, List.getD_eq_getElem?_getD, List.getElem?_eq_none hh]
   ·rw [gb, getB_or hbx hby (by omega)]
    have hi2 : i < 128 := by rw [lb, hlB] at hi; omega
    rw [i4, bol]
    simp [List.getD_eq_getElem?_getD, hi2]
  rw [eb] at ib
  obtain ⟨ra, rc, rfl, _⟩ := ib.open
  have hk2 := hk h2 _ (le1.trans le2) ib
  simp -dsimp -implicitDefEqProofs (disch := first|with_reducible assumption|omega) [go_sem]
  exact fin_here hk2
theorem mown_any {ql : List QM} {ms : List MotD} (v : Value) (hv : Recs motC 33 h v ql) (hq : ql.map (fun x => x.2.2) = ms) (hm : MotsOk h ql) (hl : ql.length ≤ 1000) (hb : ∀ m ∈ ms, m.yes.length ≤ 1000 ∧ m.no.length ≤ 1000)
    (hk : ∀ h' o ql', PH.le h h' → okO o ms.length → apO o L h' → ql'.map (fun x => x.2.2) = ms → MotsOk h' ql' → K (ovs o ms.length) (oent 111 33 o (ql'.flatMap motC) L) h') :
    Spec Tryz.prog 211 [v] L h K := by
  have hql : ql.length = ms.length := by rw [← hq, List.length_map]
  have hv0 := hv
  obtain ⟨va, vc, rfl, _⟩ := hv.open
  refine x_enter Tryz.func211 rfl (rs := [_]) rfl rfl mixed (by kernel_rfl) rfl rfl ?_
  simp -dsimp -implicitDefEqProofs (disch := first|with_reducible assumption|omega) [go_sem]
  refine cloneT_own _ hv0 hm hl fun ot ok2 at1 => ?_
  rw [hql] at ok2 ⊢
  obtain ⟨mta, mtc, emt, _⟩ := ovs_open ok2
  rw [emt]
  simp -dsimp -implicitDefEqProofs (disch := first|with_reducible assumption|omega) [go_sem]
  refine xloop (γ := Nat × List QM × PH) (0, ql, h)
    (fun q => q.1 ≤ ms.length ∧ q.2.1.map (fun x => x.2.2) = ms ∧ MotsOk q.2.2 q.2.1 ∧ PH.le h q.2.2 ∧ apO ot L q.2.2)
    (fun q => [(9, .int .i64 q.1), (8, .int .i64 ms.length), (3, .slice mta ms.length mtc)])
    (fun q => oent 111 33 ot (q.2.1.flatMap motC) L) (fun q => q.2.2) (fun q => ms.length - q.1) ?_ ?_ ?_ ?_
  · exact ⟨Nat.zero_le _, hq, hm, PH.le_refl _, at1⟩
  · simp [Ent, List.lookup, xEnv]
  · exact Drop.refl _ _
  rintro ⟨k, ql', h6⟩ ⟨k1, k2, k3, k4, k8⟩
  simp only at k1 k2 k3 k4 k8 ⊢
  have hql' : ql'.length = ms.length := by rw [← k2, List.length_map]
  by_cases c1 : k < ms.length
  · obtain ⟨bt, cap, rfl⟩ : ∃ bt cap, ot = some (bt, cap) := by
      cases ot with
      | none => have : ms.length = 0 := ok2; omega
      | some p => exact ⟨_, _, rfl⟩
    simp only [ovs, Value.slice.injEq] at emt
    obtain ⟨rfl, _, rfl⟩ := emt
    have hbt : h6 bt = noC := k8.2
    obtain ⟨qk, hqk⟩ : ∃ qk, qk = gr zeroQM ql' k := ⟨_, rfl⟩
    have hmem : qk ∈ ql' := by rw [hqk, gr_lt (by omega)]; exact List.getElem_mem _
    have hmk : IsMot h6 qk := k3 qk hmem
    have hmdm : qk.2.2 ∈ ms := by rw [← k2]; exact List.mem_map.2 ⟨qk, hmem, rfl⟩
    obtain ⟨vy, vn, md⟩ := qk
    have hy := hmk.y
    have hn := hmk.n
    simp only at hy hn
    obtain ⟨ya, yc, rfl, _⟩ := hy.open
    obtain ⟨na, nc, rfl, _⟩ := hn.open
    simp only at hmdm
    have fv := hb md hmdm
    have g31 : ∀ (K : Value → Prop) (t : Tok K), xNth (ql'.flatMap motC) (k * 33 + 31) K t = K (.slice ya md.yes.length yc) := fun K t => xNth_rec motC_len zeroQM ql' (by omega) (by decide) (by rw [← hqk]; rfl) K t
    have g32 : ∀ (K : Value → Prop) (t : Tok K), xNth (ql'.flatMap motC) (k * 33 + 32) K t = K (.slice na md.no.length nc) := fun K t => xNth_rec motC_len zeroQM ql' (by omega) (by decide) (by rw [← hqk]; rfl) K t
    have hfl : (ql'.flatMap motC).length = ms.length * 33 := by rw [flatG_len motC_len, hql']
    rw [oent_some]
    simp -dsimp -implicitDefEqProofs (disch := first|with_reducible assumption|omega) [go_sem]
    refine xanyl (.tk 0 (.tk 1 (.tk 2 (.tk 3 (.tk 4 (.tk 5 (.tk 6 (.tk 7 (.tk 10 (.tk 11 (.tk 12 (.tk 13 (.tkl 8 (.tkl 14 (.or true 9 (.or true 15 (.tk 16 (.tk 17 (.or false 18 (.tk 19 (.tk 20 (.or false 21 (.fin) (.nil)))) (.nil)))) (.nil)) (.nil)))))))))))))))) (by kernel_rfl) (by kernel_rfl) _ (Drop.refl _ _) ?_
    simp -dsimp -implicitDefEqProofs (disch := first|with_reducible assumption|omega) [go_sem, g31, g32]
    have hset : ∀ a ac b bc, ((ql'.flatMap motC).set (k * 33 + 31) (.slice a md.yes.length ac)).set (k * 33 + 32) (.slice b md.no.length bc) = (ql'.set k (.slice a md.yes.length ac, .slice b md.no.length bc, md)).flatMap motC := fun a ac b bc => by
      rw [flatG_set motC_len zeroQM ql' (i := k) (m := 31) (a' := (.slice a md.yes.length ac, .slice na md.no.length nc, md)) (by omega) (by decide) (by rw [← hqk]; rfl)]
      rw [flatG_set motC_len zeroQM _ (i := k) (m := 32) (a' := (.slice a md.yes.length ac, .slice b md.no.length bc, md)) (by rw [List.length_set]; omega) (by decide) (by rw [gr_lt (by rw [List.length_set]; omega), List.getElem_set_self]; rfl), List.set_set]
    have hmd : ms[k]? = some md := by
      rw [← k2, List.getElem?_map, List.getElem?_eq_getElem (by omega), ← gr_lt (z := zeroQM) (by omega), ← hqk]
      rfl
    have hmap : ∀ (a b : Value), (ql'.set k (a, b, md)).map (fun x => x.2.2) = ms := fun a b => by
      rw [List.map_set, k2]
      apply List.ext_getElem?
      intro n
      rw [List.getElem?_set]
      split
      · rename_i e
        subst e
        first
        | exact hmd.symm
        | (split
           · exact hmd.symm
           · rw [List.getElem?_eq_none (by omega)])
      · rfl
    repeat' first
      | refine xpl_or ?_ ?_
      | simp -dsimp -implicitDefEqProofs (disch := first|with_reducible assumption|omega) [go_sem, g31, g32]
    all_goals
      refine Spec.ap (clone8_any _ hy (by omega) fun h7 v7 le7 i7 ap => ?_)
      obtain ⟨y1, y2⟩ := ap
      obtain ⟨wa, wc, rfl, _⟩ := i7.open
      first
      | refine xkp (Drop.forget le7) ?_
      | skip
    repeat' first
      | refine xpl_or ?_ ?_
      | simp -dsimp -implicitDefEqProofs (disch := first|with_reducible assumption|omega) [go_sem, g31, g32]
      | refine xkp (Drop.forget le7) ?_
    all_goals
      refine Spec.ap (clone8_any _ (hn.up le7) (by omega) fun h8 v8 le8 i8 ap => ?_)
      obtain ⟨z1, z2⟩ := ap
      obtain ⟨ua, uc, rfl, _⟩ := i8.open
      first
      | refine xkp (Drop.forget (le7.trans le8)) ?_
      | skip
    repeat' first
      | refine xpl_or ?_ ?_
      | simp -dsimp -implicitDefEqProofs (disch := first|with_reducible assumption|omega) [go_sem, g31, g32]
      | refine xkp (Drop.forget (le7.trans le8)) ?_
    all_goals
      have hsum : (ql'.map fun a => (motC a).length).sum = ms.length * 33 := by rw [← List.length_flatMap, hfl]
      have hk33 := flat_lt (n := ms.length) (w := 33) c1 (m := 32) (by decide)
      refine ⟨by omega, by omega, k + 1, ql'.set k (.slice wa md.yes.length wc, .slice ua md.no.length uc, md), h8, ⟨by omega, hmap _ _, fun x hx => ?_, k4.trans (le7.trans le8), ⟨k8.1, z1⟩⟩, by omega, by simp [Ent, List.lookup], ?_⟩
      · rcases List.mem_or_eq_of_mem_set hx with hx | rfl
        · exact (k3 x hx).up (le7.trans le8)
        · exact ⟨i7.up le8, i8, hmk.ok⟩
      · rw [hset]; exact Drop.refl _ _
  have hkl : k = ms.length := by omega
  subst hkl
  rw [← emt]
  simp -dsimp -implicitDefEqProofs (disch := first|with_reducible assumption|omega) [go_sem]
  exact fin_here (hk h6 ot ql' k4 ok2 k8 k2 k3)
def overB (m : MotD) : Bool := decide (m.state = 3) || decide (m.state = 4)
theorem over_any (q : QM) (hk : K (.bool (overB q.2.2)) L h) : Spec Tryz.prog 210 [.agg (motC q).toArray] L h K := by
 unfold overB at hk
 refine x_enter Tryz.func210 rfl (rs := [_]) rfl rfl mixed (by kernel_rfl) rfl rfl ?_
 simp -dsimp -implicitDefEqProofs (disch := first|with_reducible assumption|omega) [go_sem, motC, parC, List.cons_append, List.nil_append]
 refine xnew fun b1 n_b1 h_b1 => ?_
 try simp only [Apart] at n_b1
 by_cases c1 : q.2.2.state = 3
 ·simp -dsimp -implicitDefEqProofs (disch := first|with_reducible assumption|omega) [go_sem, motC, parC, List.cons_append, List.nil_append, c1]
  exact fin_tail (fin_here (by simpa [c1] using hk))
 ·simp -dsimp -implicitDefEqProofs (disch := first|with_reducible assumption|omega) [go_sem, motC, parC, List.cons_append, List.nil_append, c1]
  exact fin_tail (fin_here (by simpa [c1] using hk))
def atO (ms : List MotD) : Nat := ms.findIdx overB
theorem atO_le (ms : List MotD) : atO ms ≤ ms.length := List.findIdx_le_length
theorem ioverM_any {ql : List QM} {ms : List MotD} (v : Value) (hv : Recs motC 33 h v ql) (hq : ql.map (fun x => x.2.2) = ms) (hk : K (.int .i64 (if atO ms < ms.length then (atO ms : Int) else -1)) L h) :
  Spec Tryz.prog 209 [v, .func (.func 210) #[] #[]] L h K := by
 have hql : ql.length = ms.length := by rw [← hq, List.length_map]
 have hv0 := hv
 obtain ⟨va, vc, rfl, _⟩ := hv.open
 have hel : ∀ j (hj : j < ms.length), ms[j] = (gr zeroQM ql j).2.2 := fun j hj => by
  subst hq
  rw [gr_lt (by omega)]
  simp
 refine x_enter Tryz.func209 rfl (rs := [_]) rfl rfl mixed (by kernel_rfl) rfl rfl ?_
 simp -dsimp -implicitDefEqProofs (disch := first|with_reducible assumption|omega) [go_sem]
 refine xloop' (0 : Nat) (fun k => k ≤ ms.length ∧ ∀ j, j < k → ∀ hj : j < ms.length, overB ms[j] = false) (fun k => [(8, .int .i64 k), (7, .int .i64 ql.length), (0, .slice va ql.length vc), (1, .func (.func 210) #[] #[])]) (fun k => ms.length - k) ?_ ?_ ?_
 ·exact ⟨Nat.zero_le _, fun j hj => by omega⟩
 ·simp [Ent, List.lookup, xEnv]
 rintro k ⟨k1, k2⟩
 by_cases c1 : k < ms.length
 ·have c1' : k < ql.length := by omega
  simp -dsimp -implicitDefEqProofs (disch := first|with_reducible assumption|omega) [go_sem, ↓idxR zeroQM (by decide) hv0]
  refine over_any _ ?_
  rw [← hel k c1]
  cases c2 : overB ms[k] with
  | true =>
   have e : atO ms = k := (List.findIdx_eq c1).2 ⟨c2, fun j hj => k2 j hj (by omega)⟩
   rw [e, if_pos c1] at hk
   simp -dsimp -implicitDefEqProofs (disch := first|with_reducible assumption|omega) [go_sem]
   exact fin_here hk
  | false =>
   simp -dsimp -implicitDefEqProofs (disch := first|with_reducible assumption|omega) [go_sem]
   refine ⟨k + 1, ⟨by omega, fun j hj hj2 => ?_⟩, by omega, by simp [Ent, List.lookup], Drop.refl _ _⟩
   by_cases e : j = k
   ·subst e; exact c2
   ·exact k2 j (by omega) hj2
 ·have hkl : k = ms.length := by omega
  subst hkl
  have e : atO ms = ms.length := List.findIdx_eq_length.2 fun x hx => by
   obtain ⟨j, hj, rfl⟩ := List.mem_iff_getElem.1 hx
   exact k2 j hj hj
  rw [e, if_neg (Nat.lt_irrefl _)] at hk
  simp -dsimp -implicitDefEqProofs (disch := first|with_reducible assumption|omega) [go_sem]
  exact fin_here hk
def openM (p : ParD) (d : DeedD) (ep : Int) : MotD := ⟨d.acct, d.what, d.par, d.to, d.amt, ep + p.poll, 0, 1, List.replicate 16 0, List.replicate 16 0⟩
def openP (p : ParD) (ms : List MotD) (d : DeedD) (ep : Int) : List MotD × Int × Int :=
 if !parR p then ([], 0, 70) else if !(decide (d.kind = 6) && rightD d) then ([], 0, 80) else if !wi ep 0 1073741824 then ([], 0, 2) else if 31 < atO ms then ([], 0, 161)
 else if atO ms = ms.length then (ms ++ [openM p d ep], (atO ms : Int), 0) else (ms.set (atO ms) (openM p d ep), (atO ms : Int), 0)
end Go.X

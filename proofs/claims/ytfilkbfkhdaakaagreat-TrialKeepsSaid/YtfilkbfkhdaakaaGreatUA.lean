/- Contracts of cmp.Compare, trial.Better, bullionref42.Better. Conditions: numbers of 64 bits; a quorum's tick is no number below 0. -/
import Derived.Test.YtfilkbfkhdaakaaGreatXA
import Derived.Test.YtfilkbfkhdaakaaGreatWD
import Derived.Test.YtfilkbfkhdaakaaGreatPD
set_option linter.unusedVariables false
set_option linter.unusedSimpArgs false
set_option maxRecDepth 20000
namespace Go.X
open Go.RowKit Go.Proofs Go.Bl
variable {L : Own} {h : PH} {K : PK}
@[go_sem ↓] theorem func_one42 (f : Fn) (a b : Array Value) : (Value.func f a b).oneCell' = true := rfl
structure OutD where
  q : Int
  c : Int
  a : Int
  m : Int
  b : Int
  t : Int
abbrev outC (o : OutD) : List Value := [.int .i64 o.q, .int .i64 o.c, .int .u64 o.a, .int .u64 o.m, .int .u64 o.b, .int .u64 o.t]
abbrev outV (o : OutD) : Value := .agg #[.int .i64 o.q, .int .i64 o.c, .int .u64 o.a, .int .u64 o.m, .int .u64 o.b, .int .u64 o.t]
structure OutOk (o : OutD) : Prop where
  n : ∀ z ∈ [o.q, o.c], -9223372036854775808 ≤ z ∧ z ≤ 9223372036854775807
  u : ∀ z ∈ [o.a, o.m, o.b, o.t], 0 ≤ z ∧ z ≤ 18446744073709551615
theorem nan64_any (x : Int) (hk : K (.bool false) L h) : Spec Tryz.prog 214 [.int .u64 x] L h K := by
  refine x_enter Tryz.func214 rfl (rs := [_]) rfl rfl mixed (by kernel_rfl) rfl rfl ?_
  simp -dsimp -implicitDefEqProofs (disch := first | with_reducible assumption | omega) [go_sem]
  exact fin_here hk
theorem nani_any (x : Int) (hk : K (.bool false) L h) : Spec Tryz.prog 215 [.int .i64 x] L h K := by
  refine x_enter Tryz.func215 rfl (rs := [_]) rfl rfl mixed (by kernel_rfl) rfl rfl ?_
  simp -dsimp -implicitDefEqProofs (disch := first | with_reducible assumption | omega) [go_sem]
  exact fin_here hk
theorem cmp64_any (x y : Int) (hk : K (.int .i64 (cmp3 x y)) L h) : Spec Tryz.prog 130 [.int .u64 x, .int .u64 y] L h K := by
  refine x_enter Tryz.func130 rfl (rs := [_]) rfl rfl mixed (by kernel_rfl) rfl rfl ?_
  simp -dsimp -implicitDefEqProofs (disch := first | with_reducible assumption | omega) [go_sem]
  refine nan64_any x ?_
  simp -dsimp -implicitDefEqProofs (disch := first | with_reducible assumption | omega) [go_sem]
  refine nan64_any y ?_
  unfold cmp3 at hk
  by_cases c1 : x < y
  · rw [if_pos c1] at hk
    simp -dsimp -implicitDefEqProofs (disch := first | with_reducible assumption | omega) [go_sem]
    exact fin_here hk
  · rw [if_neg c1] at hk
    by_cases c2 : y < x
    · rw [if_pos c2] at hk
      simp -dsimp -implicitDefEqProofs (disch := first | with_reducible assumption | omega) [go_sem]
      exact fin_here hk
    · rw [if_neg c2] at hk
      simp -dsimp -implicitDefEqProofs (disch := first | with_reducible assumption | omega) [go_sem]
      exact fin_here hk
theorem cmpi_any (x y : Int) (hk : K (.int .i64 (cmp3 x y)) L h) : Spec Tryz.prog 133 [.int .i64 x, .int .i64 y] L h K := by
  refine x_enter Tryz.func133 rfl (rs := [_]) rfl rfl mixed (by kernel_rfl) rfl rfl ?_
  simp -dsimp -implicitDefEqProofs (disch := first | with_reducible assumption | omega) [go_sem]
  refine nani_any x ?_
  simp -dsimp -implicitDefEqProofs (disch := first | with_reducible assumption | omega) [go_sem]
  refine nani_any y ?_
  unfold cmp3 at hk
  by_cases c1 : x < y
  · rw [if_pos c1] at hk
    simp -dsimp -implicitDefEqProofs (disch := first | with_reducible assumption | omega) [go_sem]
    exact fin_here hk
  · rw [if_neg c1] at hk
    by_cases c2 : y < x
    · rw [if_pos c2] at hk
      simp -dsimp -implicitDefEqProofs (disch := first | with_reducible assumption | omega) [go_sem]
      exact fin_here hk
    · rw [if_neg c2] at hk
      simp -dsimp -implicitDefEqProofs (disch := first | with_reducible assumption | omega) [go_sem]
      exact fin_here hk
def lateO (o : OutD) : Int := if o.q = 0 then 18446744073709551615 else o.q - 1
theorem late_any (o : OutD) (ok : OutOk o) (h0 : 0 ≤ o.q) (hk : K (.int .u64 (lateO o)) L h) : Spec Tryz.prog 131 [outV o] L h K := by
  have hq := ok.n o.q (by simp)
  refine x_enter Tryz.func131 rfl (rs := [_]) rfl rfl mixed (by kernel_rfl) rfl rfl ?_
  simp -dsimp -implicitDefEqProofs (disch := first | with_reducible assumption | omega) [go_sem]
  refine xnew fun b1 n_b1 h_b1 => ?_
  try simp only [Apart] at n_b1
  simp -dsimp -implicitDefEqProofs (disch := first | with_reducible assumption | omega) [go_sem]
  have e : IntKind.u64.wrap (IntKind.u64.wrap o.q - 1) = lateO o := by
    unfold lateO
    simp only [wrap_u64_mod]
    split <;> omega
  have e2 : IntKind.u64.wrap (o.q - 1) = lateO o := by
    unfold lateO
    simp only [wrap_u64_mod]
    split <;> omega
  first
  | (simp only [e, e2]; exact fin_tail (fin_here hk))
  | (trace_state; sorry)
def decN (a b : OutD) : Int :=
  if cmp3 (lateO b) (lateO a) ≠ 0 then cmp3 (lateO b) (lateO a) else if cmp3 a.c b.c ≠ 0 then cmp3 a.c b.c else cmp3 b.b a.b
theorem bet1_any (a b : OutD) (oa : OutOk a) (ob : OutOk b) (ha : 0 ≤ a.q) (hb : 0 ≤ b.q) (hk : K (.int .i64 (cmp3 (lateO b) (lateO a))) L h) : Spec Tryz.prog 129 [outV a, outV b] L h K := by
  refine x_enter Tryz.func129 rfl (rs := [_]) rfl rfl mixed (by kernel_rfl) rfl rfl ?_
  simp -dsimp -implicitDefEqProofs (disch := first | with_reducible assumption | omega) [go_sem]
  refine xnew fun b1 n_b1 h_b1 => ?_
  try simp only [Apart] at n_b1
  simp -dsimp -implicitDefEqProofs (disch := first | with_reducible assumption | omega) [go_sem]
  refine xnew fun b2 n_b2 h_b2 => ?_
  try simp only [Apart] at n_b2
  simp -dsimp -implicitDefEqProofs (disch := first | with_reducible assumption | omega) [go_sem]
  refine xdraw (by kernel_rfl) rfl ?_
  simp -dsimp -implicitDefEqProofs (disch := first | with_reducible assumption | omega) [go_sem]
  refine xdcall _ (late_any b ob hb ⟨rfl, rfl, rfl⟩) ?_
  simp -dsimp -implicitDefEqProofs (disch := first | with_reducible assumption | omega) [go_sem]
  refine xdcall _ (late_any a oa ha ⟨rfl, rfl, rfl⟩) ?_
  simp -dsimp -implicitDefEqProofs (disch := first | with_reducible assumption | omega) [go_sem]
  refine xdcall _ (cmp64_any _ _ ⟨rfl, rfl, rfl⟩) ?_
  simp -dsimp -implicitDefEqProofs (disch := first | with_reducible assumption | omega) [go_sem]
  exact fin_tail (fin_tail (fin_here hk))
theorem bet2_any (a b : OutD) (hk : K (.int .i64 (cmp3 a.c b.c)) L h) : Spec Tryz.prog 132 [outV a, outV b] L h K := by
  refine x_enter Tryz.func132 rfl (rs := [_]) rfl rfl mixed (by kernel_rfl) rfl rfl ?_
  simp -dsimp -implicitDefEqProofs (disch := first | with_reducible assumption | omega) [go_sem]
  refine xnew fun b1 n_b1 h_b1 => ?_
  try simp only [Apart] at n_b1
  simp -dsimp -implicitDefEqProofs (disch := first | with_reducible assumption | omega) [go_sem]
  refine xnew fun b2 n_b2 h_b2 => ?_
  try simp only [Apart] at n_b2
  simp -dsimp -implicitDefEqProofs (disch := first | with_reducible assumption | omega) [go_sem]
  refine cmpi_any _ _ ?_
  simp -dsimp -implicitDefEqProofs (disch := first | with_reducible assumption | omega) [go_sem]
  exact fin_tail (fin_tail (fin_here hk))
theorem bet3_any (a b : OutD) (hk : K (.int .i64 (cmp3 b.b a.b)) L h) : Spec Tryz.prog 134 [outV a, outV b] L h K := by
  refine x_enter Tryz.func134 rfl (rs := [_]) rfl rfl mixed (by kernel_rfl) rfl rfl ?_
  simp -dsimp -implicitDefEqProofs (disch := first | with_reducible assumption | omega) [go_sem]
  refine xnew fun b1 n_b1 h_b1 => ?_
  try simp only [Apart] at n_b1
  simp -dsimp -implicitDefEqProofs (disch := first | with_reducible assumption | omega) [go_sem]
  refine xnew fun b2 n_b2 h_b2 => ?_
  try simp only [Apart] at n_b2
  simp -dsimp -implicitDefEqProofs (disch := first | with_reducible assumption | omega) [go_sem]
  refine cmp64_any _ _ ?_
  simp -dsimp -implicitDefEqProofs (disch := first | with_reducible assumption | omega) [go_sem]
  exact fin_tail (fin_tail (fin_here hk))
theorem decide_any (a b : OutD) (oa : OutOk a) (ob : OutOk b) (ha : 0 ≤ a.q) (hb : 0 ≤ b.q) (blk : Nat) (hB : h blk = noC)
    (hk : K (.int .i64 (decN a b)) (⟨blk, 211, [.func (.func 129) #[] #[], .func (.func 132) #[] #[], .func (.func 134) #[] #[]], 3⟩ :: L) h) :
    Spec Tryz.prog 128 [outV a, outV b, .slice (some ⟨blk, 0, none⟩) 3 3] (⟨blk, 211, [.func (.func 129) #[] #[], .func (.func 132) #[] #[], .func (.func 134) #[] #[]], 3⟩ :: L) h K := by
  refine x_enter Tryz.func128 rfl (rs := [_]) rfl rfl mixed (by kernel_rfl) rfl rfl ?_
  simp -dsimp -implicitDefEqProofs (disch := first | with_reducible assumption | omega) [go_sem]
  refine xnew fun b3 n_b3 h_b3 => ?_
  try simp only [Apart] at n_b3
  simp -dsimp -implicitDefEqProofs (disch := first | with_reducible assumption | omega) [go_sem]
  refine xnew fun b4 n_b4 h_b4 => ?_
  try simp only [Apart] at n_b4
  simp -dsimp -implicitDefEqProofs (disch := first | with_reducible assumption | omega) [go_sem]
  refine xloop (γ := Nat) 0 (fun k => k ≤ 3 ∧ (1 ≤ k → cmp3 (lateO b) (lateO a) = 0) ∧ (2 ≤ k → cmp3 a.c b.c = 0) ∧ (3 ≤ k → cmp3 b.b a.b = 0))
    (fun k => [(12, .int .i64 k), (11, .int .i64 3), (10, .slice (some ⟨blk, 0, none⟩) 3 3), (3, .pointer (some ⟨b3, 0, none⟩)), (4, .pointer (some ⟨b4, 0, none⟩))])
    (fun _ => ⟨b4, 86, outC b, 6⟩ :: ⟨b3, 86, outC a, 6⟩ :: ⟨blk, 211, [.func (.func 129) #[] #[], .func (.func 132) #[] #[], .func (.func 134) #[] #[]], 3⟩ :: L) (fun _ => h) (fun k => 3 - k) ?_ ?_ ?_ ?_
  · exact ⟨by decide, fun x => absurd x (by decide), fun x => absurd x (by decide), fun x => absurd x (by decide)⟩
  · simp [Ent, List.lookup, xEnv]
  · exact Drop.refl _ _
  rintro k ⟨k1, k2, k3, k4⟩
  rcases (show k = 0 ∨ k = 1 ∨ k = 2 ∨ k = 3 by omega) with rfl | rfl | rfl | rfl
  · simp -dsimp -implicitDefEqProofs (disch := first | with_reducible assumption | omega) [go_sem]
    refine bet1_any a b oa ob ha hb ?_
    by_cases c : cmp3 (lateO b) (lateO a) = 0
    · simp -dsimp -implicitDefEqProofs (disch := first | with_reducible assumption | omega) [go_sem]
      exact ⟨1, ⟨by decide, fun _ => c, fun x => absurd x (by decide), fun x => absurd x (by decide)⟩, by decide, by simp [Ent, List.lookup], Drop.refl _ _⟩
    · have e : decN a b = cmp3 (lateO b) (lateO a) := by
        rw [decN, if_pos c]
      rw [e] at hk
      simp -dsimp -implicitDefEqProofs (disch := first | with_reducible assumption | omega) [go_sem]
      exact fin_tail (fin_tail (fin_here hk))
  · simp -dsimp -implicitDefEqProofs (disch := first | with_reducible assumption | omega) [go_sem]
    refine bet2_any a b ?_
    by_cases c : cmp3 a.c b.c = 0
    · simp -dsimp -implicitDefEqProofs (disch := first | with_reducible assumption | omega) [go_sem]
      exact ⟨2, ⟨by decide, fun _ => k2 (by decide), fun _ => c, fun x => absurd x (by decide)⟩, by decide, by simp [Ent, List.lookup], Drop.refl _ _⟩
    · have e : decN a b = cmp3 a.c b.c := by
        rw [decN, if_neg (fun x => x (k2 (by decide))), if_pos c]
      rw [e] at hk
      simp -dsimp -implicitDefEqProofs (disch := first | with_reducible assumption | omega) [go_sem]
      exact fin_tail (fin_tail (fin_here hk))
  · simp -dsimp -implicitDefEqProofs (disch := first | with_reducible assumption | omega) [go_sem]
    refine bet3_any a b ?_
    by_cases c : cmp3 b.b a.b = 0
    · simp -dsimp -implicitDefEqProofs (disch := first | with_reducible assumption | omega) [go_sem]
      exact ⟨3, ⟨by decide, fun _ => k2 (by decide), fun _ => k3 (by decide), fun _ => c⟩, by decide, by simp [Ent, List.lookup], Drop.refl _ _⟩
    · have e : decN a b = cmp3 b.b a.b := by
        rw [decN, if_neg (fun x => x (k2 (by decide))), if_neg (fun x => x (k3 (by decide)))]
      rw [e] at hk
      simp -dsimp -implicitDefEqProofs (disch := first | with_reducible assumption | omega) [go_sem]
      exact fin_tail (fin_tail (fin_here hk))
  · have e : decN a b = 0 := by rw [decN, k2 (by decide), k3 (by decide), k4 (by decide)]; rfl
    rw [e] at hk
    simp -dsimp -implicitDefEqProofs (disch := first | with_reducible assumption | omega) [go_sem]
    exact fin_tail (fin_tail (fin_here hk))
/-- whether one outcome is better than another one -/
def betB (now thn : OutD) : Bool := decide (0 < decN thn now)
theorem better_any (a b : OutD) (oa : OutOk a) (ob : OutOk b) (ha : 0 ≤ a.q) (hb : 0 ≤ b.q) (hk : K (.bool (betB a b)) L h) : Spec Tryz.prog 42 [outV a, outV b] L h K := by
  refine x_enter Tryz.func42 rfl (rs := [_]) rfl rfl mixed (by kernel_rfl) rfl rfl ?_
  simp -dsimp -implicitDefEqProofs (disch := first | with_reducible assumption | omega) [go_sem]
  refine xnew fun b2 n_b2 h_b2 => ?_
  try simp only [Apart] at n_b2
  simp -dsimp -implicitDefEqProofs (disch := first | with_reducible assumption | omega) [go_sem]
  refine xnew fun b3 n_b3 h_b3 => ?_
  try simp only [Apart] at n_b3
  simp -dsimp -implicitDefEqProofs (disch := first | with_reducible assumption | omega) [go_sem]
  refine xnew fun b5 n_b5 h_b5 => ?_
  try simp only [Apart] at n_b5
  simp -dsimp -implicitDefEqProofs (disch := first | with_reducible assumption | omega) [go_sem]
  refine decide_any b a ob oa hb ha b5 h_b5 ?_
  simp -dsimp -implicitDefEqProofs (disch := first | with_reducible assumption | omega) [go_sem]
  exact fin_tail (fin_tail (fin_tail (fin_here hk)))
def betR (now thn : OutD) : Bool :=
  if ¬ (decide (now.q = 0) = decide (thn.q = 0)) then decide (now.q = 0) else if now.q ≠ thn.q then decide (thn.q < now.q) else if now.c ≠ thn.c then decide (now.c < thn.c) else decide (thn.b < now.b)
theorem rbet_any (a b : OutD) (hk : K (.bool (betR a b)) L h) : Spec Tryz.prog 43 [outV a, outV b] L h K := by
  unfold betR at hk
  refine x_enter Tryz.func43 rfl (rs := [_]) rfl rfl mixed (by kernel_rfl) rfl rfl ?_
  simp -dsimp -implicitDefEqProofs (disch := first | with_reducible assumption | omega) [go_sem]
  refine xnew fun b2 n_b2 h_b2 => ?_
  try simp only [Apart] at n_b2
  simp -dsimp -implicitDefEqProofs (disch := first | with_reducible assumption | omega) [go_sem]
  refine xnew fun b3 n_b3 h_b3 => ?_
  try simp only [Apart] at n_b3
  simp -dsimp -implicitDefEqProofs (disch := first | with_reducible assumption | omega) [go_sem]
  by_cases c1 : a.q = 0
  · by_cases c2 : b.q = 0
    · rw [if_neg (by simp [c1, c2]), if_neg (by omega)] at hk
      by_cases c3 : a.c = b.c
      · rw [if_neg (by omega)] at hk
        simp -dsimp -implicitDefEqProofs (disch := first | with_reducible assumption | omega) [go_sem]
        exact fin_tail (fin_tail (fin_here hk))
      · rw [if_pos c3] at hk
        simp -dsimp -implicitDefEqProofs (disch := first | with_reducible assumption | omega) [go_sem]
        exact fin_tail (fin_tail (fin_here hk))
    · rw [if_pos (by simp [c1, c2])] at hk
      simp -dsimp -implicitDefEqProofs (disch := first | with_reducible assumption | omega) [go_sem]
      exact fin_tail (fin_tail (fin_here (by simpa [c1] using hk)))
  · by_cases c2 : b.q = 0
    · rw [if_pos (by simp [c1, c2])] at hk
      simp -dsimp -implicitDefEqProofs (disch := first | with_reducible assumption | omega) [go_sem]
      exact fin_tail (fin_tail (fin_here (by simpa [c1] using hk)))
    · rw [if_neg (by simp [c1, c2])] at hk
      by_cases c4 : a.q = b.q
      · rw [if_neg (by omega)] at hk
        by_cases c3 : a.c = b.c
        · rw [if_neg (by omega)] at hk
          simp -dsimp -implicitDefEqProofs (disch := first | with_reducible assumption | omega) [go_sem]
          exact fin_tail (fin_tail (fin_here hk))
        · rw [if_pos c3] at hk
          simp -dsimp -implicitDefEqProofs (disch := first | with_reducible assumption | omega) [go_sem]
          exact fin_tail (fin_tail (fin_here hk))
      · rw [if_pos c4] at hk
        simp -dsimp -implicitDefEqProofs (disch := first | with_reducible assumption | omega) [go_sem]
        exact fin_tail (fin_tail (fin_here hk))
theorem cmp3_pos (x y : Int) : 0 < cmp3 x y ↔ y < x := by
  unfold cmp3
  split
  · omega
  · split <;> omega
theorem cmp3_zero (x y : Int) : cmp3 x y = 0 ↔ x = y := by
  unfold cmp3
  split
  · omega
  · split <;> omega
theorem bet_same (a b : OutD) (oa : OutOk a) (ob : OutOk b) (ha : 0 ≤ a.q) (hb : 0 ≤ b.q) : betB a b = betR a b := by
  have qa := oa.n a.q (by simp)
  have qb := ob.n b.q (by simp)
  have e1 : cmp3 (lateO a) (lateO b) = 0 ↔ a.q = b.q := by
    rw [cmp3_zero]; unfold lateO; split <;> split <;> omega
  have e2 : 0 < cmp3 (lateO a) (lateO b) ↔ lateO b < lateO a := cmp3_pos _ _
  by_cases c1 : a.q = b.q
  · have l1 : cmp3 (lateO a) (lateO b) = 0 := e1.2 c1
    have r1 : betR a b = if a.c ≠ b.c then decide (a.c < b.c) else decide (b.b < a.b) := by
      unfold betR
      rw [if_neg (show ¬ ¬ (decide (a.q = 0) = decide (b.q = 0)) by rw [c1]; simp), if_neg (show ¬ a.q ≠ b.q from fun x => x c1)]
    have d1 : decN b a = if cmp3 b.c a.c ≠ 0 then cmp3 b.c a.c else cmp3 a.b b.b := by rw [decN, if_neg (show ¬ (cmp3 (lateO a) (lateO b) ≠ 0) from fun x => x l1)]
    rw [betB, r1, d1]
    by_cases c2 : b.c = a.c
    · rw [if_neg (show ¬ (cmp3 b.c a.c ≠ 0) from fun x => x ((cmp3_zero _ _).2 c2)), if_neg (show ¬ (a.c ≠ b.c) from fun x => x c2.symm)]
      exact decide_eq_decide.2 (cmp3_pos _ _)
    · rw [if_pos (show cmp3 b.c a.c ≠ 0 from fun x => c2 ((cmp3_zero _ _).1 x)), if_pos (show a.c ≠ b.c from fun x => c2 x.symm)]
      exact decide_eq_decide.2 (cmp3_pos _ _)
  · have d1 : decN b a = cmp3 (lateO a) (lateO b) := by rw [decN, if_pos (show cmp3 (lateO a) (lateO b) ≠ 0 from fun x => c1 (e1.1 x))]
    rw [betB, d1]
    have e3 : decide (0 < cmp3 (lateO a) (lateO b)) = decide (lateO b < lateO a) := decide_eq_decide.2 e2
    rw [e3]
    unfold betR lateO
    by_cases c2 : a.q = 0
    · have c3 : b.q ≠ 0 := by omega
      rw [if_pos (show ¬ (decide (a.q = 0) = decide (b.q = 0)) by simp [c2, c3])]
      rw [decide_eq_decide]
      rw [if_pos c2, if_neg c3]
      omega
    · by_cases c3 : b.q = 0
      · rw [if_pos (show ¬ (decide (a.q = 0) = decide (b.q = 0)) by simp [c2, c3])]
        rw [decide_eq_decide]
        rw [if_neg c2, if_pos c3]
        omega
      · rw [if_neg (show ¬ ¬ (decide (a.q = 0) = decide (b.q = 0)) by simp [c2, c3]), if_pos c1]
        rw [decide_eq_decide]
        rw [if_neg c2, if_neg c3]
        omega
theorem bet_not (a b : OutD) : betB a b = true → betB b a = false := fun e => by
  have e' : 0 < decN b a := of_decide_eq_true e
  refine decide_eq_false fun x => ?_
  unfold decN at e' x
  have z : ∀ x y : Int, cmp3 x y = 0 ↔ cmp3 y x = 0 := fun x y => by rw [cmp3_zero, cmp3_zero]; omega
  by_cases c1 : cmp3 (lateO a) (lateO b) = 0
  · rw [if_neg (fun y => y c1)] at e'
    rw [if_neg (fun y => y ((z _ _).1 c1))] at x
    by_cases c2 : cmp3 b.c a.c = 0
    · rw [if_neg (fun y => y c2)] at e'
      rw [if_neg (fun y => y ((z _ _).1 c2))] at x
      have := (cmp3_pos _ _).1 e'
      have := (cmp3_pos _ _).1 x
      omega
    · rw [if_pos c2] at e'
      rw [if_pos (fun y => c2 ((z _ _).1 y))] at x
      have := (cmp3_pos _ _).1 e'
      have := (cmp3_pos _ _).1 x
      omega
  · rw [if_pos c1] at e'
    rw [if_pos (fun y => c1 ((z _ _).1 y))] at x
    have := (cmp3_pos _ _).1 e'
    have := (cmp3_pos _ _).1 x
    omega
theorem bet_self (a : OutD) : betB a a = false := by
  cases e : betB a a with
  | false => rfl
  | true => have := bet_not a a e; rw [e] at this; cases this
end Go.X

/- Lemmas and contracts for a statement about the given program. Conditions: as each says. -/
import Derived.Test.YtmkekhodcacfbaaGreatQ25
import Derived.Test.YtmkekhodcacfbaaGreatQ27
set_option linter.unusedVariables false
set_option linter.unusedSimpArgs false
set_option maxHeartbeats 12800000
set_option maxRecDepth 20000
namespace Go.X
open Go.RowKit Go.Proofs Go.Bl
variable {L : Own} {h : PH} {K : PK}
theorem downR_any (a b c : Int) (ha : 0 ≤ a ∧ a ≤ 18446744073709551615) (hb : 0 ≤ b ∧ b ≤ 18446744073709551615) (hc : 0 ≤ c ∧ c ≤ 18446744073709551615) (hk : ∀ h', PH.le h h' → K (.tuple #[.int .u64 (dwN a b c), .int .i64 (dwE a b c)]) L h') : Spec Tryz.prog 141 [.int .u64 a, .int .u64 b, .int .u64 c] L h K := by
 by_cases c0 : c = 0
 ·have e : dwE a b c = 20 := by rw [dwE, if_pos c0]
  have hk := hk h (PH.le_refl h)
  rw [dwN, e] at hk
  refine x_enter Tryz.func141 rfl (rs := [_, _]) rfl rfl mixed (by kernel_rfl) rfl rfl ?_
  simp -dsimp -implicitDefEqProofs (disch := first|with_reducible assumption|omega) [go_sem]
  exact fin_here hk
 ·refine x_enter Tryz.func141 rfl (rs := [_, _]) rfl rfl mixed (by kernel_rfl) rfl rfl ?_
  simp -dsimp -implicitDefEqProofs (disch := first|with_reducible assumption|omega) [go_sem]
  refine part2_any a b c ha hb ⟨by omega, hc.2⟩ fun h1 q r l1 nq nr => ?_
  obtain ⟨qa, qk, qc, rfl⟩ := nq.sl
  obtain ⟨ra, rk, rc, rfl⟩ := nr.sl
  simp -dsimp -implicitDefEqProofs (disch := first|with_reducible assumption|omega) [go_sem]
  refine xnew fun b8 n_b8 h_b8 => ?_
  try simp only [Apart] at n_b8
  simp -dsimp -implicitDefEqProofs (disch := first|with_reducible assumption|omega) [go_sem]
  refine xnew fun b9 n_b9 h_b9 => ?_
  try simp only [Apart] at n_b9
  simp -dsimp -implicitDefEqProofs (disch := first|with_reducible assumption|omega) [go_sem]
  refine told_any _ nq fun h2 l2 => ?_
  have h3 := hk h2 (l1.trans l2)
  by_cases c1 : a * b / c ≤ 18446744073709551615
  ·have e : dwE a b c = 0 := by rw [dwE, if_neg c0, if_pos c1]
   have e1 : u64E (a * b / c) = true := decide_eq_true c1
   have e2 : u64N (a * b / c) = a * b / c := by rw [u64N, if_pos c1]
   rw [dwN, e, if_pos rfl] at h3
   rw [e1, e2]
   simp -dsimp -implicitDefEqProofs (disch := first|with_reducible assumption|omega) [go_sem]
   exact fin_tail (fin_tail (fin_here h3))
  ·have e : dwE a b c = 10 := by rw [dwE, if_neg c0, if_neg c1]
   have e1 : u64E (a * b / c) = false := decide_eq_false c1
   have e2 : u64N (a * b / c) = 0 := by rw [u64N, if_neg c1]
   rw [dwN, e] at h3
   rw [e1, e2]
   simp -dsimp -implicitDefEqProofs (disch := first|with_reducible assumption|omega) [go_sem]
   exact fin_tail (fin_tail (fin_here h3))
theorem nt_len0 {v : Value} {n : Int} {k : Nat} {a : Option Addr} {m c : Nat} (hv : Nt h v n (nz n k)) (e : v = .agg #[.slice a m c]) : (0 < m) ↔ n ≠ 0 := by
 obtain ⟨s, ds, rfl, hs, hd, hv, hl⟩ := hv
 obtain ⟨a', c', rfl, _⟩ := hs.open
 have e2 : ds.length = m := by
  simp at e
  exact e.2.1
 subst e2
 constructor
 ·intro h0 hn
  rw [hn] at hl
  simp [nz] at hl
  rw [hl] at h0
  exact Nat.lt_irrefl _ h0
 ·intro hn
  by_cases c0 : ds.length = 0
  ·rw [List.length_eq_zero_iff] at c0
   subst c0
   exact absurd (hv.symm.trans rfl) hn
  ·omega
theorem upR_any (a b c : Int) (ha : 0 ≤ a ∧ a ≤ 18446744073709551615) (hb : 0 ≤ b ∧ b ≤ 18446744073709551615) (hc : 0 ≤ c ∧ c ≤ 18446744073709551615) (hk : ∀ h', PH.le h h' → K (.tuple #[.int .u64 (uqN a b c), .int .i64 (uqE a b c)]) L h') : Spec Tryz.prog 142 [.int .u64 a, .int .u64 b, .int .u64 c] L h K := by
 by_cases c0 : c = 0
 ·have e : uqE a b c = 20 := by rw [uqE, if_pos c0]
  have hk := hk h (PH.le_refl h)
  rw [uqN, e] at hk
  refine x_enter Tryz.func142 rfl (rs := [_, _]) rfl rfl mixed (by kernel_rfl) rfl rfl ?_
  simp -dsimp -implicitDefEqProofs (disch := first|with_reducible assumption|omega) [go_sem]
  exact fin_here hk
 ·have tail : ∀ {h2 : PH} {K' : PK} {L' : Own} (v : Value), PH.le h h2 → Nt h2 v (uqQ a b c) 42 → (∀ h', PH.le h h' → K' (.tuple #[.int .u64 (uqN a b c), .int .i64 (uqE a b c)]) L' h') → Spec Tryz.prog 235 [v] L' h2 K' := fun {h2 K' L'} v le hv hK => by
   refine told_any v hv fun h3 l3 => ?_
   have h4 := hK h3 (le.trans l3)
   by_cases c1 : uqQ a b c ≤ 18446744073709551615
   ·have e : uqE a b c = 0 := by rw [uqE, if_neg c0, if_pos c1]
    rw [uqN, e, if_pos rfl] at h4
    rw [show u64E (uqQ a b c) = true from decide_eq_true c1, u64N, if_pos c1]
    exact h4
   ·have e : uqE a b c = 10 := by rw [uqE, if_neg c0, if_neg c1]
    rw [uqN, e] at h4
    rw [show u64E (uqQ a b c) = false from decide_eq_false c1, u64N, if_neg c1]
    exact h4
  refine x_enter Tryz.func142 rfl (rs := [_, _]) rfl rfl mixed (by kernel_rfl) rfl rfl ?_
  simp -dsimp -implicitDefEqProofs (disch := first|with_reducible assumption|omega) [go_sem]
  refine part2_any a b c ha hb ⟨by omega, hc.2⟩ fun h1 q r l1 nq nr => ?_
  obtain ⟨qa, qk, qc, rfl⟩ := nq.sl
  obtain ⟨ra, rk, rc, rfl⟩ := nr.sl
  have hlen := nt_len0 nr rfl
  simp -dsimp -implicitDefEqProofs (disch := first|with_reducible assumption|omega) [go_sem]
  refine xnew fun b8 n_b8 h_b8 => ?_
  try simp only [Apart] at n_b8
  simp -dsimp -implicitDefEqProofs (disch := first|with_reducible assumption|omega) [go_sem]
  refine xnew fun b9 n_b9 h_b9 => ?_
  try simp only [Apart] at n_b9
  simp -dsimp -implicitDefEqProofs (disch := first|with_reducible assumption|omega) [go_sem]
  by_cases c2 : a * b % c = 0
  ·have hrk : ¬ 0 < rk := fun x => hlen.1 x c2
   have q : uqQ a b c = a * b / c := by rw [uqQ, if_pos c2]
   simp -dsimp -implicitDefEqProofs (disch := first|with_reducible assumption|omega) [go_sem]
   refine tail _ l1 (by rw [q]; exact nq.more (by decide)) fun h3 l3 => ?_
   simp -dsimp -implicitDefEqProofs (disch := first|with_reducible assumption|omega) [go_sem]
   exact fin_tail (fin_tail (fin_here (hk h3 l3)))
  ·have hrk : 0 < rk := hlen.2 c2
   have q : uqQ a b c = a * b / c + 1 := by rw [uqQ, if_neg c2]
   simp -dsimp -implicitDefEqProofs (disch := first|with_reducible assumption|omega) [go_sem]
   refine xanyl (.tkl 0 (.or true 1 (.or true 2 (.or false 3 (.fin) (.nil)) (.nil)) (.nil))) (by kernel_rfl) (by kernel_rfl) _ (Drop.refl _ _) ?_
   simp -dsimp -implicitDefEqProofs (disch := first|with_reducible assumption|omega) [go_sem]
   refine Spec.ap (of_any 1 (by decide) (by decide) fun h2 r2 l2 n2 ap => ?_)
   simp only [Ap] at ap
   obtain ⟨p9, p8, _⟩ := ap
   first
   | refine xkp (Drop.forget l2) ?_
   | skip
   simp -dsimp -implicitDefEqProofs (disch := first|with_reducible assumption|omega) [go_sem]
   refine Spec.ap (radd_any _ _ (nq.up l2) n2 ⟨by decide, by decide⟩ fun h3 r3 l3 n3 ap => ?_)
   simp only [Ap] at ap
   obtain ⟨p93, p83, _⟩ := ap
   obtain ⟨sa, sk, sc, rfl⟩ := n3.sl
   first
   | refine xkp (Drop.forget (l2.trans l3)) ?_
   | skip
   simp -dsimp -implicitDefEqProofs (disch := first|with_reducible assumption|omega) [go_sem]
   refine tail _ (l1.trans (l2.trans l3)) (by rw [q]; exact n3.more (by decide)) fun h4 l4 => ?_
   simp -dsimp -implicitDefEqProofs (disch := first|with_reducible assumption|omega) [go_sem]
   exact fin_tail (fin_tail (fin_here (hk h4 l4)))
def rbit (k : Nat) : Int := if k < 32 then 2 ^ (31 - k) else 0
theorem rbit_half {k : Nat} (hk : k < 32) : rbit k / 2 = rbit (k + 1) := by
 have : ∀ k, k < 32 → rbit k / 2 = rbit (k + 1) := by decide +kernel
 exact this k hk
theorem rbit_pos {k : Nat} (hk : k < 32) : 1 ≤ rbit k ∧ rbit k ≤ 2147483648 := by
 have : ∀ k, k < 32 → 1 ≤ rbit k ∧ rbit k ≤ 2147483648 := by decide +kernel
 exact this k hk
theorem root_any (n : Int) (hn : 0 ≤ n ∧ n ≤ 18446744073709551615) (hk : K (.int .u64 (rootP n)) L h) : Spec Tryz.prog 281 [.int .u64 n] L h K := by
 refine x_enter Tryz.func281 rfl (rs := [_]) rfl rfl mixed (by kernel_rfl) rfl rfl ?_
 simp -dsimp -implicitDefEqProofs (disch := first|with_reducible assumption|omega) [go_sem]
 refine xloop' (0 : Nat) (fun k => k ≤ 32) (fun k => [(4, .int .u64 (rbit k)), (3, .int .u64 (rtK n k)), (0, .int .u64 n)]) (fun k => 32 - k) ?_ ?_ ?_
 ·exact Nat.zero_le _
 ·simp [Ent, List.lookup, xEnv, rbit, rtK]
 intro k hk1
 by_cases c1 : k < 32
 ·obtain ⟨a1, a2, a3, a4⟩ := rtK_ok hn k hk1
  obtain ⟨b1, b2⟩ := rbit_pos c1
  have e : (2 : Int) ^ (32 - k) = 2 * rbit k := by
   rw [rbit, if_pos c1, show 32 - k = (31 - k) + 1 by omega, Int.pow_succ, Int.mul_comm]
  have hh := rbit_half c1
  have hp := prod_bound (rtK n k + rbit k) (rtK n k + rbit k) (by omega) (by omega) (by omega) (by omega)
  have hs : rtK n (k + 1) = if (rtK n k + rbit k) * (rtK n k + rbit k) ≤ n then rtK n k + rbit k else rtK n k := by rw [rtK, rbit, if_pos c1]
  rw [e] at a2
  generalize rbit k = b at *
  generalize rtK n k = r at *
  by_cases c2 : (r + b) * (r + b) ≤ n
  ·rw [if_pos c2] at hs
   simp -dsimp -implicitDefEqProofs (disch := first|with_reducible assumption|omega) [go_sem, hh]
   exact ⟨k + 1, by omega, by omega, by simp [Ent, List.lookup, hs], Drop.refl _ _⟩
  ·rw [if_neg c2] at hs
   simp -dsimp -implicitDefEqProofs (disch := first|with_reducible assumption|omega) [go_sem, hh]
   exact ⟨k + 1, by omega, by omega, by simp [Ent, List.lookup, hs], Drop.refl _ _⟩
 ·have hkl : k = 32 := by omega
  subst hkl
  rw [show rbit 32 = 0 from rfl]
  simp -dsimp -implicitDefEqProofs (disch := first|with_reducible assumption|omega) [go_sem]
  exact fin_here hk
theorem square_any (m : Int) (hm : 0 ≤ m ∧ m ≤ 18446744073709551615) (hk : ∀ h' r, PH.le h h' → Nt h' r (m * m) 41 → K r L h') : Spec Tryz.prog 288 [.int .u64 m] L h K := by
 refine x_enter Tryz.func288 rfl (rs := [_]) rfl rfl mixed (by kernel_rfl) rfl rfl ?_
 simp -dsimp -implicitDefEqProofs (disch := first|with_reducible assumption|omega) [go_sem]
 refine xnew fun b1 n_b1 h_b1 => ?_
 try simp only [Apart] at n_b1
 simp -dsimp -implicitDefEqProofs (disch := first|with_reducible assumption|omega) [go_sem]
 refine of_any _ hm.1 hm.2 fun h1 r1 l1 n1 => ?_
 simp -dsimp -implicitDefEqProofs (disch := first|with_reducible assumption|omega) [go_sem]
 refine of_any _ hm.1 hm.2 fun h2 r2 l2 n2 => ?_
 simp -dsimp -implicitDefEqProofs (disch := first|with_reducible assumption|omega) [go_sem]
 refine Spec.ap (mul_any _ _ (n1.up l2) n2 (by decide) fun h3 r3 l3 n3 ap => ?_)
 simp only [Ap] at ap
 obtain ⟨p1, _⟩ := ap
 obtain ⟨sa, sk, sc, rfl⟩ := n3.sl
 simp -dsimp -implicitDefEqProofs (disch := first|with_reducible assumption|omega) [go_sem]
 exact fin_tail (fin_here (hk h3 _ (l1.trans (l2.trans l3)) n3))
theorem cmp3_le (a b : Int) : cmp3 a b ≤ 0 ↔ a ≤ b := by
 unfold cmp3
 split
 ·constructor <;> omega
 ·split
  ·constructor <;> omega
  ·constructor <;> omega
theorem root3_any (n : Int) (hn : 0 ≤ n ∧ n ≤ 18446744073709551615) (hk : ∀ h', PH.le h h' → K (.int .u64 (rootP n)) L h') : Spec Tryz.prog 232 [.int .u64 n] L h K := by
 refine x_enter Tryz.func232 rfl (rs := [_]) rfl rfl mixed (by kernel_rfl) rfl rfl ?_
 simp -dsimp -implicitDefEqProofs (disch := first|with_reducible assumption|omega) [go_sem]
 refine xloop (γ := Int × Int × PH) (0, 4294967296, h) (fun s => 0 ≤ s.1 ∧ s.1 < s.2.1 ∧ s.2.1 ≤ 4294967296 ∧ s.1 * s.1 ≤ n ∧ n < s.2.1 * s.2.1 ∧ PH.le h s.2.2) (fun s => [(4, .int .u64 s.2.1), (3, .int .u64 s.1), (0, .int .u64 n)]) (fun _ => L) (fun s => s.2.2) (fun s => (s.2.1 - s.1).toNat) ?_ ?_ ?_ ?_
 ·exact ⟨Int.le_refl _, show (0 : Int) < 4294967296 by decide, show (4294967296 : Int) ≤ 4294967296 by decide, by simpa using hn.1, by show n < 4294967296 * 4294967296; omega, PH.le_refl _⟩
 ·simp [Ent, List.lookup, xEnv]
 ·exact Drop.refl _ _
 rintro ⟨lo, hi, h1⟩ ⟨i1, i2, i3, i4, i5, i6⟩
 simp only at i1 i2 i3 i4 i5 i6 ⊢
 by_cases c1 : 1 < hi - lo
 ·obtain ⟨m, hm⟩ : ∃ m, m = lo + (hi - lo) / 2 := ⟨_, rfl⟩
  have m1 : lo < m ∧ m < hi := by omega
  simp -dsimp -implicitDefEqProofs (disch := first|with_reducible assumption|omega) [go_sem, ← hm]
  refine square_any m (by omega) fun h2 r2 l2 n2 => ?_
  simp -dsimp -implicitDefEqProofs (disch := first|with_reducible assumption|omega) [go_sem]
  refine of_any n hn.1 hn.2 fun h3 r3 l3 n3 => ?_
  simp -dsimp -implicitDefEqProofs (disch := first|with_reducible assumption|omega) [go_sem]
  refine cmp_any _ _ (n2.up l3) n3 ?_
  by_cases c2 : m * m ≤ n
  ·have c3 := (cmp3_le (m * m) n).2 c2
   simp -dsimp -implicitDefEqProofs (disch := first|with_reducible assumption|omega) [go_sem]
   exact ⟨m, hi, h3, ⟨by omega, by omega, i3, c2, i5, i6.trans (l2.trans l3)⟩, by omega, by simp [Ent, List.lookup], Drop.refl _ _⟩
  ·have c3 : ¬ cmp3 (m * m) n ≤ 0 := fun x => c2 ((cmp3_le _ _).1 x)
   simp -dsimp -implicitDefEqProofs (disch := first|with_reducible assumption|omega) [go_sem]
   exact ⟨lo, m, h3, ⟨i1, by omega, by omega, i4, by omega, i6.trans (l2.trans l3)⟩, by omega, by simp [Ent, List.lookup], Drop.refl _ _⟩
 ·have e : hi = lo + 1 := by omega
  rw [e] at i5
  have hr := root_one hn i1 i4 i5
  rw [hr]
  simp -dsimp -implicitDefEqProofs (disch := first|with_reducible assumption|omega) [go_sem]
  exact fin_here (hk h1 i6)
theorem leaks_any (mode : Int) (hk : K (.bool (decide (mode = 3 ∨ mode = 4))) L h) : Spec Tryz.prog 217 [.int .i64 mode] L h K := by
 refine x_enter Tryz.func217 rfl (rs := [_]) rfl rfl mixed (by kernel_rfl) rfl rfl ?_
 by_cases c : mode = 3
 ·rw [decide_eq_true (Or.inl c)] at hk
  simp -dsimp -implicitDefEqProofs (disch := first|with_reducible assumption|omega) [go_sem]
  exact fin_here hk
 ·rw [show decide (mode = 3 ∨ mode = 4) = decide (mode = 4) by apply decide_eq_decide.2; omega] at hk
  simp -dsimp -implicitDefEqProofs (disch := first|with_reducible assumption|omega) [go_sem]
  exact fin_here hk
theorem leaks11_any (mode : Int) (hk : K (.bool (decide (mode = 3 ∨ mode = 4))) L h) : Spec Tryz.prog 44 [.int .i64 mode] L h K := by
 refine x_enter Tryz.func44 rfl (rs := [_]) rfl rfl mixed (by kernel_rfl) rfl rfl ?_
 by_cases c : mode = 3
 ·rw [decide_eq_true (Or.inl c)] at hk
  simp -dsimp -implicitDefEqProofs (disch := first|with_reducible assumption|omega) [go_sem]
  exact fin_here hk
 ·rw [show decide (mode = 3 ∨ mode = 4) = decide (mode = 4) by apply decide_eq_decide.2; omega] at hk
  simp -dsimp -implicitDefEqProofs (disch := first|with_reducible assumption|omega) [go_sem]
  exact fin_here hk
theorem bud_e {p : ParD} {ac : Int} (h1 : ac ≠ 0) (h2 : ¬ 4611686018427387904 < ac) : budP p ac = dwN ac p.rate (1048576 * rootP ac) := by
 rw [budP, if_neg]; omega
theorem budof_any (p : ParD) (ok : ParOk p) (hr : parR p = true) (ac : Int) (ha : 0 ≤ ac ∧ ac ≤ 18446744073709551615) (hk : K (.int .u64 (budP p ac)) L h) : Spec Tryz.prog 216 [parV p, .int .u64 ac] L h K := by
 have ur := ok.w p.rate (by simp [wides])
 refine x_enter Tryz.func216 rfl (rs := [_]) rfl rfl mixed (by kernel_rfl) rfl rfl ?_
 simp -dsimp -implicitDefEqProofs (disch := first|with_reducible assumption|omega) [go_sem]
 refine xnew fun b1 n_b1 h_b1 => ?_
 try simp only [Apart] at n_b1
 by_cases c1 : ac = 0
 ·rw [budP, if_pos (.inl c1)] at hk
  simp -dsimp -implicitDefEqProofs (disch := first|with_reducible assumption|omega) [go_sem]
  exact fin_tail (fin_here hk)
 by_cases c2 : 4611686018427387904 < ac
 ·rw [budP, if_pos (.inr c2)] at hk
  simp -dsimp -implicitDefEqProofs (disch := first|with_reducible assumption|omega) [go_sem]
  exact fin_tail (fin_here hk)
 rw [bud_e c1 c2] at hk
 have rp := root_pos (n := ac) (by omega)
 have rl := (root_ok (n := ac) (by omega)).2.1
 simp -dsimp -implicitDefEqProofs (disch := first|with_reducible assumption|omega) [go_sem]
 refine pcheck0 p ok ?_
 rw [hr]
 simp -dsimp -implicitDefEqProofs (disch := first|with_reducible assumption|omega) [go_sem]
 refine xanyl (.tk 0 (.tk 1 (.tk 3 (.tkl 2 (.or true 4 (.tk 5 (.or true 6 (.tk 7 (.tk 8 (.tk 9 (.tk 10 (.tk 11 (.fin)))))) (.nil))) (.nil)))))) (by kernel_rfl) (by kernel_rfl) _ (Drop.refl _ _) ?_
 simp -dsimp -implicitDefEqProofs (disch := first|with_reducible assumption|omega) [go_sem]
 refine root_any ac ha ?_
 first
 | refine xkp (Drop.refl _ _) ?_
 | skip
 simp -dsimp -implicitDefEqProofs (disch := first|with_reducible assumption|omega) [go_sem]
 refine down_any ac p.rate (1048576 * rootP ac) ha ur (by omega) ?_
 first
 | refine xkp (Drop.refl _ _) ?_
 | skip
 simp -dsimp -implicitDefEqProofs (disch := first|with_reducible assumption|omega) [go_sem]
 by_cases c3 : dwE ac p.rate (1048576 * rootP ac) = 0
 ·simp -dsimp -implicitDefEqProofs (disch := first|with_reducible assumption|omega) [go_sem]
  exact fin_tail (fin_here hk)
 ·rw [dwN, if_neg c3] at hk
  simp -dsimp -implicitDefEqProofs (disch := first|with_reducible assumption|omega) [go_sem]
  exact fin_tail (fin_here hk)
theorem budof13_any (p : ParD) (ok : ParOk p) (ac : Int) (ha : 0 ≤ ac ∧ ac ≤ 18446744073709551615) (hk : ∀ h', PH.le h h' → K (.int .u64 (budP p ac)) L h') : Spec Tryz.prog 137 [parV p, .int .u64 ac] L h K := by
 have ur := ok.w p.rate (by simp [wides])
 refine x_enter Tryz.func137 rfl (rs := [_]) rfl rfl mixed (by kernel_rfl) rfl rfl ?_
 simp -dsimp -implicitDefEqProofs (disch := first|with_reducible assumption|omega) [go_sem]
 refine xnew fun b1 n_b1 h_b1 => ?_
 try simp only [Apart] at n_b1
 by_cases c1 : ac = 0
 ·have hk := hk h (PH.le_refl _)
  rw [budP, if_pos (.inl c1)] at hk
  simp -dsimp -implicitDefEqProofs (disch := first|with_reducible assumption|omega) [go_sem]
  exact fin_tail (fin_here hk)
 by_cases c2 : 4611686018427387904 < ac
 ·have hk := hk h (PH.le_refl _)
  rw [budP, if_pos (.inr c2)] at hk
  simp -dsimp -implicitDefEqProofs (disch := first|with_reducible assumption|omega) [go_sem]
  exact fin_tail (fin_here hk)
 rw [bud_e c1 c2] at hk
 have rp := root_pos (n := ac) (by omega)
 have rl := (root_ok (n := ac) (by omega)).2.1
 simp -dsimp -implicitDefEqProofs (disch := first|with_reducible assumption|omega) [go_sem]
 refine xanyl (.tk 0 (.tk 1 (.tk 3 (.tkl 2 (.or true 4 (.tk 5 (.or true 6 (.tk 7 (.tk 8 (.tk 9 (.tk 10 (.tk 11 (.fin)))))) (.nil))) (.nil)))))) (by kernel_rfl) (by kernel_rfl) _ (Drop.refl _ _) ?_
 simp -dsimp -implicitDefEqProofs (disch := first|with_reducible assumption|omega) [go_sem]
 refine root3_any ac ha fun h1 l1 => ?_
 first
 | refine xkp (Drop.forget l1) ?_
 | skip
 simp -dsimp -implicitDefEqProofs (disch := first|with_reducible assumption|omega) [go_sem]
 refine downR_any ac p.rate (1048576 * rootP ac) ha ur (by omega) fun h2 l2 => ?_
 first
 | refine xkp (Drop.forget (l1.trans l2)) ?_
 | skip
 simp -dsimp -implicitDefEqProofs (disch := first|with_reducible assumption|omega) [go_sem]
 exact fin_tail (fin_here (hk h2 (l1.trans l2)))
theorem together_any {zs : List Int} (most : Int) (v : Value) (hz : Ints h .u64 v zs) (hm : most ≤ 18446744073709551615) (hk : K (.bool (decide (tot zs ≤ most))) L h) : Spec Tryz.prog 218 [.int .u64 most, v] L h K := by
 refine x_enter Tryz.func218 rfl (rs := [_]) rfl rfl mixed (by kernel_rfl) rfl rfl ?_
 simp -dsimp -implicitDefEqProofs (disch := first|with_reducible assumption|omega) [go_sem]
 refine msum_any v hz ?_
 by_cases c : tot zs ≤ 18446744073709551615
 ·rw [sumV_ok c]
  simp -dsimp -implicitDefEqProofs (disch := first|with_reducible assumption|omega) [go_sem]
  exact fin_here hk
 ·rw [decide_eq_false (show ¬ tot zs ≤ most by omega)] at hk
  rw [sumV_no c]
  simp -dsimp -implicitDefEqProofs (disch := first|with_reducible assumption|omega) [go_sem]
  exact fin_here hk
theorem bud_b {p : ParD} (ok : ParOk p) {ac : Int} (ha : 0 ≤ ac ∧ ac ≤ 18446744073709551615) : 0 ≤ budP p ac ∧ budP p ac ≤ 18446744073709551615 := by
 have ur := ok.w p.rate (by simp [wides])
 unfold budP
 split
 ·decide
 ·exact dwN_b ha.1 ur.1 (by have := (root_ok ha).1; omega)
theorem bmint_any (p : ParD) (ok : ParOk p) (hr : parR p = true) (ac is most mode : Int) (ha : 0 ≤ ac ∧ ac ≤ 18446744073709551615) (hi : 0 ≤ is ∧ is ≤ 18446744073709551615) (hm : 0 ≤ most ∧ most ≤ 18446744073709551615) (hk : ∀ h', PH.le h h' → K (.int .u64 (mintP p ac is most mode)) L h') :
  Spec Tryz.prog 127 [parV p, .int .u64 ac, .int .u64 is, .int .u64 most, .int .i64 mode] L h K := by
 have bb := bud_b ok ha
 refine x_enter Tryz.func127 rfl (rs := [_]) rfl rfl mixed (by kernel_rfl) rfl rfl ?_
 simp -dsimp -implicitDefEqProofs (disch := first|with_reducible assumption|omega) [go_sem]
 refine xnew fun b1 n_b1 h_b1 => ?_
 try simp only [Apart] at n_b1
 simp -dsimp -implicitDefEqProofs (disch := first|with_reducible assumption|omega) [go_sem]
 refine budof_any p ok hr ac ha ?_
 simp -dsimp -implicitDefEqProofs (disch := first|with_reducible assumption|omega) [go_sem]
 refine leaks_any mode ?_
 by_cases c1 : mode = 3 ∨ mode = 4
 ·have hk := hk h (PH.le_refl _)
  rw [mintP, if_pos (.inl c1)] at hk
  rw [decide_eq_true c1]
  simp -dsimp -implicitDefEqProofs (disch := first|with_reducible assumption|omega) [go_sem]
  exact fin_tail (fin_here hk)
 ·rw [decide_eq_false c1]
  simp -dsimp -implicitDefEqProofs (disch := first|with_reducible assumption|omega) [go_sem]
  refine xnew fun b2 n_b2 h_b2 => ?_
  try simp only [Apart] at n_b2
  simp -dsimp -implicitDefEqProofs (disch := first|with_reducible assumption|omega) [go_sem]
  refine call_pub_at (sz := 1) (n := 2) (cap := 2) [] ⟨Nat.le_refl _, by decide⟩ rfl (by decide) h_b2 fun h2 le2 s2 f2 => ?_
  refine together_any (zs := [is, budP p ac]) most _ ⟨s2, fun z hz => ?_⟩ hm.2 ?_
  ·simp only [List.mem_cons, List.not_mem_nil, or_false] at hz
   rcases hz with rfl | rfl <;> assumption
  have hk := hk h2 le2
  rw [tot_two]
  simp only [List.nil_append]
  by_cases c2 : is + budP p ac ≤ most
  ·rw [mintP, if_neg (by omega)] at hk
   rw [decide_eq_true c2]
   simp -dsimp -implicitDefEqProofs (disch := first|with_reducible assumption|omega) [go_sem]
   exact fin_tail (fin_here hk)
  ·rw [mintP, if_pos (.inr (by omega))] at hk
   rw [decide_eq_false c2]
   simp -dsimp -implicitDefEqProofs (disch := first|with_reducible assumption|omega) [go_sem]
   exact fin_tail (fin_here hk)
theorem cmp3_gt (a b : Int) : 0 < cmp3 a b ↔ b < a := by
 unfold cmp3
 split
 ·constructor <;> omega
 ·split
  ·constructor <;> omega
  ·constructor <;> omega
theorem mint13_any (p : ParD) (ok : ParOk p) (ac is most mode : Int) (ha : 0 ≤ ac ∧ ac ≤ 18446744073709551615) (hi : 0 ≤ is ∧ is ≤ 18446744073709551615) (hm : 0 ≤ most ∧ most ≤ 18446744073709551615) (hk : ∀ h', PH.le h h' → K (.int .u64 (mintP p ac is most mode)) L h') :
  Spec Tryz.prog 43 [parV p, .int .u64 ac, .int .u64 is, .int .u64 most, .bool (decide (mode = 3 ∨ mode = 4))] L h K := by
 have bb := bud_b ok ha
 refine x_enter Tryz.func43 rfl (rs := [_]) rfl rfl mixed (by kernel_rfl) rfl rfl ?_
 simp -dsimp -implicitDefEqProofs (disch := first|with_reducible assumption|omega) [go_sem]
 refine xnew fun b1 n_b1 h_b1 => ?_
 try simp only [Apart] at n_b1
 simp -dsimp -implicitDefEqProofs (disch := first|with_reducible assumption|omega) [go_sem]
 refine budof13_any p ok ac ha fun h1 l1 => ?_
 by_cases c1 : mode = 3 ∨ mode = 4
 ·have hk := hk h1 l1
  rw [mintP, if_pos (.inl c1)] at hk
  rw [decide_eq_true c1]
  simp -dsimp -implicitDefEqProofs (disch := first|with_reducible assumption|omega) [go_sem]
  exact fin_tail (fin_here hk)
 ·rw [decide_eq_false c1]
  simp -dsimp -implicitDefEqProofs (disch := first|with_reducible assumption|omega) [go_sem]
  refine of_any is hi.1 hi.2 fun h2 r2 l2 n2 => ?_
  simp -dsimp -implicitDefEqProofs (disch := first|with_reducible assumption|omega) [go_sem]
  refine of_any _ bb.1 bb.2 fun h3 r3 l3 n3 => ?_
  simp -dsimp -implicitDefEqProofs (disch := first|with_reducible assumption|omega) [go_sem]
  refine radd_any _ _ (n2.up l3) n3 ⟨by decide, by decide⟩ fun h4 r4 l4 n4 => ?_
  simp -dsimp -implicitDefEqProofs (disch := first|with_reducible assumption|omega) [go_sem]
  refine of_any most hm.1 hm.2 fun h5 r5 l5 n5 => ?_
  simp -dsimp -implicitDefEqProofs (disch := first|with_reducible assumption|omega) [go_sem]
  refine cmp_any _ _ (n4.up l5) n5 ?_
  have hk := hk h5 (l1.trans (l2.trans (l3.trans (l4.trans l5))))
  by_cases c2 : most < is + budP p ac
  ·have c3 := (cmp3_gt (is + budP p ac) most).2 c2
   rw [mintP, if_pos (.inr c2)] at hk
   simp -dsimp -implicitDefEqProofs (disch := first|with_reducible assumption|omega) [go_sem]
   exact fin_tail (fin_here hk)
  ·have c3 : ¬ 0 < cmp3 (is + budP p ac) most := fun x => c2 ((cmp3_gt _ _).1 x)
   rw [mintP, if_neg (by omega)] at hk
   simp -dsimp -implicitDefEqProofs (disch := first|with_reducible assumption|omega) [go_sem]
   exact fin_tail (fin_here hk)
theorem fall_b {a b : Int} (ha : 0 ≤ a ∧ a ≤ 18446744073709551615) (hb : 0 ≤ b) : 0 ≤ fallP a b ∧ fallP a b ≤ a := by
 unfold fallP; split <;> omega
theorem ppay_any (p : ParD) (ok : ParOk p) (hr : parR p = true) (m : MemD) (mo : MemOk m) (n : Int) (hn : 0 ≤ n ∧ n ≤ 18446744073709551615) (hk : K (.tuple #[stdV (payM p m n).1, .int .u64 (payM p m n).2]) L h) : Spec Tryz.prog 129 [parV p, stdV m, .int .u64 n] L h K := by
 have ub := mo.u m.bal (by simp)
 have uc := ok.w p.cap (by simp [wides])
 have fb := fall_b uc ub.1
 have fs : m.bal + min n (fallP p.cap m.bal) ≤ 18446744073709551615 := by unfold fallP at *; split <;> omega
 unfold payM at hk
 refine x_enter Tryz.func129 rfl (rs := [_, _]) rfl rfl mixed (by kernel_rfl) rfl rfl ?_
 simp -dsimp -implicitDefEqProofs (disch := first|with_reducible assumption|omega) [go_sem]
 refine xnew fun b1 n_b1 h_b1 => ?_
 try simp only [Apart] at n_b1
 simp -dsimp -implicitDefEqProofs (disch := first|with_reducible assumption|omega) [go_sem]
 refine xnew fun b2 n_b2 h_b2 => ?_
 try simp only [Apart] at n_b2
 simp -dsimp -implicitDefEqProofs (disch := first|with_reducible assumption|omega) [go_sem]
 refine xnew fun b3 n_b3 h_b3 => ?_
 try simp only [Apart] at n_b3
 simp -dsimp -implicitDefEqProofs (disch := first|with_reducible assumption|omega) [go_sem]
 refine pcheck0 p ok ?_
 rw [hr]
 simp -dsimp -implicitDefEqProofs (disch := first|with_reducible assumption|omega) [go_sem]
 refine mfall_any p.cap m.bal uc ub ?_
 simp -dsimp -implicitDefEqProofs (disch := first|with_reducible assumption|omega) [go_sem]
 refine mtake_any n (fallP p.cap m.bal) hn fb.1 ?_
 simp -dsimp -implicitDefEqProofs (disch := first|with_reducible assumption|omega) [go_sem]
 exact fin_tail (fin_tail (fin_tail (fin_here hk)))
theorem pay14_any (p : ParD) (ok : ParOk p) (m : MemD) (mo : MemOk m) (n : Int) (hn : 0 ≤ n ∧ n ≤ 18446744073709551615) (hk : K (.tuple #[stdV (payM p m n).1, .int .u64 (payM p m n).2]) L h) : Spec Tryz.prog 46 [parV p, stdV m, .int .u64 n] L h K := by
 have ub := mo.u m.bal (by simp)
 have uc := ok.w p.cap (by simp [wides])
 unfold payM fallP at hk
 refine x_enter Tryz.func46 rfl (rs := [_, _]) rfl rfl mixed (by kernel_rfl) rfl rfl ?_
 simp -dsimp -implicitDefEqProofs (disch := first|with_reducible assumption|omega) [go_sem]
 refine xnew fun b1 n_b1 h_b1 => ?_
 try simp only [Apart] at n_b1
 simp -dsimp -implicitDefEqProofs (disch := first|with_reducible assumption|omega) [go_sem]
 refine xnew fun b2 n_b2 h_b2 => ?_
 try simp only [Apart] at n_b2
 simp -dsimp -implicitDefEqProofs (disch := first|with_reducible assumption|omega) [go_sem]
 refine xnew fun b3 n_b3 h_b3 => ?_
 try simp only [Apart] at n_b3
 simp -dsimp -implicitDefEqProofs (disch := first|with_reducible assumption|omega) [go_sem]
 by_cases c1 : m.bal < p.cap
 ·rw [if_pos (by omega)] at hk
  by_cases c2 : n ≤ p.cap - m.bal
  ·rw [Int.min_eq_left c2, Int.sub_self] at hk
   simp -dsimp -implicitDefEqProofs (disch := first|with_reducible assumption|omega) [go_sem]
   exact fin_tail (fin_tail (fin_tail (fin_here hk)))
  ·rw [Int.min_eq_right (by omega)] at hk
   simp -dsimp -implicitDefEqProofs (disch := first|with_reducible assumption|omega) [go_sem]
   exact fin_tail (fin_tail (fin_tail (fin_here hk)))
 ·rw [show (if m.bal ≤ p.cap then p.cap - m.bal else 0) = 0 by split <;> omega] at hk
  by_cases c2 : n ≤ 0
  ·rw [Int.min_eq_left c2, Int.sub_self] at hk
   simp -dsimp -implicitDefEqProofs (disch := first|with_reducible assumption|omega) [go_sem]
   exact fin_tail (fin_tail (fin_tail (fin_here hk)))
  ·rw [Int.min_eq_right (by omega)] at hk
   simp only [Int.add_zero, Int.sub_zero] at hk
   simp -dsimp -implicitDefEqProofs (disch := first|with_reducible assumption|omega) [go_sem]
   exact fin_tail (fin_tail (fin_tail (fin_here hk)))
theorem fineQ_b {p : ParD} (ok : ParOk p) (hr : parR p = true) {m : MemD} (mo : MemOk m) (mode : Int) : 0 ≤ fineQ p m mode ∧ fineQ p m mode ≤ 18446744073709551615 := by
 have ue := mo.u m.eff (by simp)
 have us := mo.u m.score (by simp)
 have hs := parR_streak hr
 have u1 := ok.w p.quot (by simp [wides])
 have u2 := ok.w p.quotEm (by simp [wides])
 unfold fineQ
 split
 ·exact uqN_b ue.1 us.1 u1.1
 ·split
  ·exact uqN_b ue.1 us.1 u2.1
  ·exact dwN_b ue.1 hs.2.2.2.2.1 (by decide)
theorem fine_b {p : ParD} (ok : ParOk p) (hr : parR p = true) {m : MemD} (mo : MemOk m) (mode : Int) : 0 ≤ fineP p m mode ∧ fineP p m mode ≤ m.bal := by
 have ub := mo.u m.bal (by simp)
 have := fineQ_b ok hr mo mode
 unfold fineP; split <;> omega
abbrev absV (p : ParD) (m : MemD) (mode : Int) : Value := .agg #[.int .u64 m.bal, .int .u64 m.eff, .int .u64 m.score, .int .i64 m.streak, .int .u64 p.inc, .int .u64 p.maxEff, .int .u64 p.floor, .int .u64 p.cap, .int .u64 p.up, .int .u64 p.down, .int .u64 p.bias, .int .u64 p.quot, .int .u64 p.biasEm, .int .u64 p.quotEm, .int .u64 p.recover, .int .u64 p.scoreCap, .int .u64 p.rate, .int .u64 p.bond, .int .i64 p.delay, .int .i64 p.streak, .int .i64 p.boost, .int .i64 p.absent, .int .i64 p.burn, .int .i64 p.churn, .int .i64 p.wait, .int .i64 p.poll, .int .i64 p.enact, .int .i64 p.quorum, .int .i64 mode]
theorem floss_any (p : ParD) (ok : ParOk p) (hr : parR p = true) (m : MemD) (mo : MemOk m) (mode : Int) (hk : K (.int .u64 (fineP p m mode)) L h) : Spec Tryz.prog 284 [absV p m mode] L h K := by
 have ub := mo.u m.bal (by simp)
 have ue := mo.u m.eff (by simp)
 have us := mo.u m.score (by simp)
 have hs := parR_streak hr
 have u1 := ok.w p.quot (by simp [wides])
 have u2 := ok.w p.quotEm (by simp [wides])
 have bq := fineQ_b ok hr mo mode
 unfold fineP at hk
 refine x_enter Tryz.func284 rfl (rs := [_]) rfl rfl mixed (by kernel_rfl) rfl rfl ?_
 simp -dsimp -implicitDefEqProofs (disch := first|with_reducible assumption|omega) [go_sem]
 refine xnew fun b1 n_b1 h_b1 => ?_
 try simp only [Apart] at n_b1
 simp -dsimp -implicitDefEqProofs (disch := first|with_reducible assumption|omega) [go_sem]
 by_cases c1 : mode = 3
 ·have e1 : fineE p m mode = uqE m.eff m.score p.quot := by rw [fineE, if_pos c1]
  have e2 : fineQ p m mode = uqN m.eff m.score p.quot := by rw [fineQ, if_pos c1]
  rw [e1, e2] at hk
  simp -dsimp -implicitDefEqProofs (disch := first|with_reducible assumption|omega) [go_sem]
  refine up_any m.eff m.score p.quot ue us u1 ?_
  by_cases c2 : uqE m.eff m.score p.quot = 0
  ·rw [if_pos c2] at hk
   simp -dsimp -implicitDefEqProofs (disch := first|with_reducible assumption|omega) [go_sem]
   exact fin_tail (fin_here hk)
  ·rw [if_neg c2] at hk
   simp -dsimp -implicitDefEqProofs (disch := first|with_reducible assumption|omega) [go_sem]
   exact fin_tail (fin_here hk)
 ·by_cases c3 : mode = 4
  ·have e1 : fineE p m mode = uqE m.eff m.score p.quotEm := by rw [fineE, if_neg c1, if_pos c3]
   have e2 : fineQ p m mode = uqN m.eff m.score p.quotEm := by rw [fineQ, if_neg c1, if_pos c3]
   rw [e1, e2] at hk
   simp -dsimp -implicitDefEqProofs (disch := first|with_reducible assumption|omega) [go_sem]
   refine up_any m.eff m.score p.quotEm ue us u2 ?_
   by_cases c2 : uqE m.eff m.score p.quotEm = 0
   ·rw [if_pos c2] at hk
    simp -dsimp -implicitDefEqProofs (disch := first|with_reducible assumption|omega) [go_sem]
    exact fin_tail (fin_here hk)
   ·rw [if_neg c2] at hk
    simp -dsimp -implicitDefEqProofs (disch := first|with_reducible assumption|omega) [go_sem]
    exact fin_tail (fin_here hk)
  ·have e1 : fineE p m mode = dwE m.eff p.absent 10000 := by rw [fineE, if_neg c1, if_neg c3]
   have e2 : fineQ p m mode = dwN m.eff p.absent 10000 := by rw [fineQ, if_neg c1, if_neg c3]
   rw [e1, e2] at hk
   simp -dsimp -implicitDefEqProofs (disch := first|with_reducible assumption|omega) [go_sem]
   refine down_any m.eff p.absent 10000 ue (by omega) (by decide) ?_
   by_cases c2 : dwE m.eff p.absent 10000 = 0
   ·rw [if_pos c2] at hk
    simp -dsimp -implicitDefEqProofs (disch := first|with_reducible assumption|omega) [go_sem]
    exact fin_tail (fin_here hk)
   ·rw [if_neg c2] at hk
    simp -dsimp -implicitDefEqProofs (disch := first|with_reducible assumption|omega) [go_sem]
    exact fin_tail (fin_here hk)
theorem fof_any (p : ParD) (ok : ParOk p) (hr : parR p = true) (m : MemD) (mo : MemOk m) (mode : Int) (hk : K (.int .u64 (fineP p m mode)) L h) : Spec Tryz.prog 225 [parV p, stdV m, .int .i64 mode] L h K := by
 refine x_enter Tryz.func225 rfl (rs := [_]) rfl rfl mixed (by kernel_rfl) rfl rfl ?_
 simp -dsimp -implicitDefEqProofs (disch := first|with_reducible assumption|omega) [go_sem]
 refine xnew fun b1 n_b1 h_b1 => ?_
 try simp only [Apart] at n_b1
 simp -dsimp -implicitDefEqProofs (disch := first|with_reducible assumption|omega) [go_sem]
 refine xnew fun b2 n_b2 h_b2 => ?_
 try simp only [Apart] at n_b2
 simp -dsimp -implicitDefEqProofs (disch := first|with_reducible assumption|omega) [go_sem]
 refine pcheck0 p ok ?_
 rw [hr]
 simp -dsimp -implicitDefEqProofs (disch := first|with_reducible assumption|omega) [go_sem]
 refine floss_any p ok hr m mo mode ?_
 simp -dsimp -implicitDefEqProofs (disch := first|with_reducible assumption|omega) [go_sem]
 exact fin_tail (fin_tail (fin_here hk))
theorem cut_any (n r : Int) (hn : 0 ≤ n ∧ n ≤ 18446744073709551615) (hr : 0 ≤ r ∧ r ≤ 10000) (hk : K (.tuple #[.int .u64 (dwN n r 10000), .int .u64 (n - dwN n r 10000), .int .i64 0]) L h) : Spec Tryz.prog 285 [.int .u64 n, .int .i64 r] L h K := by
 have h1 : n * r ≤ n * 10000 := Int.mul_le_mul_of_nonneg_left hr.2 hn.1
 have h0 := Int.mul_nonneg hn.1 hr.1
 have e : dwE n r 10000 = 0 := by
  unfold dwE
  rw [if_neg (by decide), if_pos]
  omega
 have b : 0 ≤ dwN n r 10000 ∧ dwN n r 10000 ≤ n := by rw [dwN, if_pos e]; omega
 refine x_enter Tryz.func285 rfl (rs := [_, _, _]) rfl rfl mixed (by kernel_rfl) rfl rfl ?_
 simp -dsimp -implicitDefEqProofs (disch := first|with_reducible assumption|omega) [go_sem]
 refine down_any n r 10000 hn (by omega) (by decide) ?_
 rw [e]
 simp -dsimp -implicitDefEqProofs (disch := first|with_reducible assumption|omega) [go_sem]
 exact fin_here hk
theorem fsplit_any (p : ParD) (ok : ParOk p) (hr : parR p = true) (n : Int) (hn : 0 ≤ n ∧ n ≤ 18446744073709551615) (hk : K (.tuple #[.int .u64 (burnP p n), .int .u64 (n - burnP p n)]) L h) : Spec Tryz.prog 226 [parV p, .int .u64 n] L h K := by
 have hs := parR_streak hr
 unfold burnP at hk
 refine x_enter Tryz.func226 rfl (rs := [_, _]) rfl rfl mixed (by kernel_rfl) rfl rfl ?_
 simp -dsimp -implicitDefEqProofs (disch := first|with_reducible assumption|omega) [go_sem]
 refine xnew fun b1 n_b1 h_b1 => ?_
 try simp only [Apart] at n_b1
 simp -dsimp -implicitDefEqProofs (disch := first|with_reducible assumption|omega) [go_sem]
 refine pcheck0 p ok ?_
 rw [hr]
 simp -dsimp -implicitDefEqProofs (disch := first|with_reducible assumption|omega) [go_sem]
 refine cut_any n p.burn hn (by omega) ?_
 simp -dsimp -implicitDefEqProofs (disch := first|with_reducible assumption|omega) [go_sem]
 exact fin_tail (fin_here hk)
def fineM (p : ParD) (m : MemD) (mode : Int) : MemD := { m with bal := m.bal - fineP p m mode }
theorem ftake_any (p : ParD) (ok : ParOk p) (hr : parR p = true) (m : MemD) (mo : MemOk m) (mode : Int) (hk : K (.tuple #[stdV (fineM p m mode), .int .u64 (burnP p (fineP p m mode)), .int .u64 (fineP p m mode - burnP p (fineP p m mode))]) L h) : Spec Tryz.prog 130 [parV p, stdV m, .int .i64 mode] L h K := by
 have ub := mo.u m.bal (by simp)
 have fb := fine_b ok hr mo mode
 unfold fineM at hk
 refine x_enter Tryz.func130 rfl (rs := [_, _, _]) rfl rfl mixed (by kernel_rfl) rfl rfl ?_
 simp -dsimp -implicitDefEqProofs (disch := first|with_reducible assumption|omega) [go_sem]
 refine xnew fun b1 n_b1 h_b1 => ?_
 try simp only [Apart] at n_b1
 simp -dsimp -implicitDefEqProofs (disch := first|with_reducible assumption|omega) [go_sem]
 refine xnew fun b2 n_b2 h_b2 => ?_
 try simp only [Apart] at n_b2
 simp -dsimp -implicitDefEqProofs (disch := first|with_reducible assumption|omega) [go_sem]
 refine xnew fun b3 n_b3 h_b3 => ?_
 try simp only [Apart] at n_b3
 simp -dsimp -implicitDefEqProofs (disch := first|with_reducible assumption|omega) [go_sem]
 refine fof_any p ok hr m mo mode ?_
 simp -dsimp -implicitDefEqProofs (disch := first|with_reducible assumption|omega) [go_sem]
 refine fsplit_any p ok hr (fineP p m mode) (by omega) ?_
 simp -dsimp -implicitDefEqProofs (disch := first|with_reducible assumption|omega) [go_sem]
 exact fin_tail (fin_tail (fin_tail (fin_here hk)))
theorem fine15_any (p : ParD) (ok : ParOk p) (hr : parR p = true) (m : MemD) (mo : MemOk m) (mode : Int) (hk : ∀ h', PH.le h h' → K (.int .u64 (fineP p m mode)) L h') : Spec Tryz.prog 47 [parV p, stdV m, .int .i64 mode] L h K := by
 have ub := mo.u m.bal (by simp)
 have ue := mo.u m.eff (by simp)
 have us := mo.u m.score (by simp)
 have hs := parR_streak hr
 have u1 := ok.w p.quot (by simp [wides])
 have u2 := ok.w p.quotEm (by simp [wides])
 have bq := fineQ_b ok hr mo mode
 unfold fineP at hk
 refine x_enter Tryz.func47 rfl (rs := [_]) rfl rfl mixed (by kernel_rfl) rfl rfl ?_
 simp -dsimp -implicitDefEqProofs (disch := first|with_reducible assumption|omega) [go_sem]
 refine xnew fun b1 n_b1 h_b1 => ?_
 try simp only [Apart] at n_b1
 simp -dsimp -implicitDefEqProofs (disch := first|with_reducible assumption|omega) [go_sem]
 refine xnew fun b2 n_b2 h_b2 => ?_
 try simp only [Apart] at n_b2
 simp -dsimp -implicitDefEqProofs (disch := first|with_reducible assumption|omega) [go_sem]
 refine Spec.ap (downR_any m.eff p.absent 10000 ue (by omega) (by decide) fun h1 l1 ap => ?_)
 simp only [Ap] at ap
 obtain ⟨q2, q1, _⟩ := ap
 by_cases c1 : mode = 3
 ·have e1 : fineE p m mode = uqE m.eff m.score p.quot := by rw [fineE, if_pos c1]
  have e2 : fineQ p m mode = uqN m.eff m.score p.quot := by rw [fineQ, if_pos c1]
  rw [e1, e2] at hk
  simp -dsimp -implicitDefEqProofs (disch := first|with_reducible assumption|omega) [go_sem]
  refine Spec.ap (upR_any m.eff m.score p.quot ue us u1 fun h2 l2 ap => ?_)
  simp only [Ap] at ap
  obtain ⟨q22, q21, _⟩ := ap
  have hk := hk h2 (l1.trans l2)
  by_cases c2 : uqE m.eff m.score p.quot = 0
  ·rw [if_pos c2] at hk
   by_cases c4 : m.bal < uqN m.eff m.score p.quot
   ·rw [Int.min_eq_right (by omega)] at hk
    simp -dsimp -implicitDefEqProofs (disch := first|with_reducible assumption|omega) [go_sem]
    exact fin_tail (fin_tail (fin_here hk))
   ·rw [Int.min_eq_left (by omega)] at hk
    simp -dsimp -implicitDefEqProofs (disch := first|with_reducible assumption|omega) [go_sem]
    exact fin_tail (fin_tail (fin_here hk))
  ·rw [if_neg c2] at hk
   simp -dsimp -implicitDefEqProofs (disch := first|with_reducible assumption|omega) [go_sem]
   exact fin_tail (fin_tail (fin_here hk))
 ·by_cases c3 : mode = 4
  ·have e1 : fineE p m mode = uqE m.eff m.score p.quotEm := by rw [fineE, if_neg c1, if_pos c3]
   have e2 : fineQ p m mode = uqN m.eff m.score p.quotEm := by rw [fineQ, if_neg c1, if_pos c3]
   rw [e1, e2] at hk
   simp -dsimp -implicitDefEqProofs (disch := first|with_reducible assumption|omega) [go_sem]
   refine Spec.ap (upR_any m.eff m.score p.quotEm ue us u2 fun h2 l2 ap => ?_)
   simp only [Ap] at ap
   obtain ⟨q22, q21, _⟩ := ap
   have hk := hk h2 (l1.trans l2)
   by_cases c2 : uqE m.eff m.score p.quotEm = 0
   ·rw [if_pos c2] at hk
    by_cases c4 : m.bal < uqN m.eff m.score p.quotEm
    ·rw [Int.min_eq_right (by omega)] at hk
     simp -dsimp -implicitDefEqProofs (disch := first|with_reducible assumption|omega) [go_sem]
     exact fin_tail (fin_tail (fin_here hk))
    ·rw [Int.min_eq_left (by omega)] at hk
     simp -dsimp -implicitDefEqProofs (disch := first|with_reducible assumption|omega) [go_sem]
     exact fin_tail (fin_tail (fin_here hk))
   ·rw [if_neg c2] at hk
    simp -dsimp -implicitDefEqProofs (disch := first|with_reducible assumption|omega) [go_sem]
    exact fin_tail (fin_tail (fin_here hk))
  ·have e1 : fineE p m mode = dwE m.eff p.absent 10000 := by rw [fineE, if_neg c1, if_neg c3]
   have e2 : fineQ p m mode = dwN m.eff p.absent 10000 := by rw [fineQ, if_neg c1, if_neg c3]
   rw [e1, e2] at hk
   have hk := hk h1 l1
   by_cases c2 : dwE m.eff p.absent 10000 = 0
   ·rw [if_pos c2] at hk
    by_cases c4 : m.bal < dwN m.eff p.absent 10000
    ·rw [Int.min_eq_right (by omega)] at hk
     simp -dsimp -implicitDefEqProofs (disch := first|with_reducible assumption|omega) [go_sem]
     exact fin_tail (fin_tail (fin_here hk))
    ·rw [Int.min_eq_left (by omega)] at hk
     simp -dsimp -implicitDefEqProofs (disch := first|with_reducible assumption|omega) [go_sem]
     exact fin_tail (fin_tail (fin_here hk))
   ·rw [if_neg c2] at hk
    simp -dsimp -implicitDefEqProofs (disch := first|with_reducible assumption|omega) [go_sem]
    exact fin_tail (fin_tail (fin_here hk))
theorem burn15_any (p : ParD) (ok : ParOk p) (hr : parR p = true) (n : Int) (hn : 0 ≤ n ∧ n ≤ 18446744073709551615) (hk : ∀ h', PH.le h h' → K (.int .u64 (burnP p n)) L h') : Spec Tryz.prog 48 [parV p, .int .u64 n] L h K := by
 have hs := parR_streak hr
 unfold burnP at hk
 refine x_enter Tryz.func48 rfl (rs := [_]) rfl rfl mixed (by kernel_rfl) rfl rfl ?_
 simp -dsimp -implicitDefEqProofs (disch := first|with_reducible assumption|omega) [go_sem]
 refine xnew fun b1 n_b1 h_b1 => ?_
 try simp only [Apart] at n_b1
 simp -dsimp -implicitDefEqProofs (disch := first|with_reducible assumption|omega) [go_sem]
 refine downR_any n p.burn 10000 hn (by omega) (by decide) fun h1 l1 => ?_
 simp -dsimp -implicitDefEqProofs (disch := first|with_reducible assumption|omega) [go_sem]
 exact fin_tail (fin_here (hk h1 l1))
end Go.X

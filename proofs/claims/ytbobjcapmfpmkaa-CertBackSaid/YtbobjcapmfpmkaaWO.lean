/- Contracts of cert.merged and of Merge. Conditions: certificates; fields of bits. -/
import Derived.Test.YtbobjcapmfpmkaaWN
set_option linter.unusedVariables false
set_option linter.unusedSimpArgs false
namespace Go.X
open Go.RowKit Go.Proofs Go.Bl
variable {L : Own} {h : PH} {K : PK}
set_option maxRecDepth 20000 in
theorem merged_any {xs ys : List Int} (v x y : Value) (n : Int) (hv : Sl h v 2 1 [x, y]) (hx : Ints h .u8 x xs) (hy : Ints h .u8 y ys) (h1 : 0 ≤ n) (h2 : n ≤ 256) (cx : chkB xs n = true) (cy : chkB ys n = true)
    (hk : ∀ h' r zs, PH.le h h' → Ints h' .u8 r zs → (zs.length : Int) = (n + 7) / 8 → (∀ i : Nat, getB zs i = (getB xs i || getB ys i)) → K r L h') : Spec Try.prog 78 [.int .i64 n, v] L h K := by
  have ov := hv.open1
  obtain ⟨a, ca, rfl, _, _, hc⟩ := ov
  obtain ⟨N, hN⟩ : ∃ N : Nat, (N : Int) = (n + 7) / 8 := ⟨((n + 7) / 8).toNat, by omega⟩
  refine x_enter Try.func78 rfl (rs := [_]) rfl rfl mixed (by kernel_rfl) rfl rfl ?_
  simp -dsimp -implicitDefEqProofs (disch := first | with_reducible assumption | omega) [go_sem]
  refine size_any _ (by omega) (by omega) ?_
  rw [sizeB_eq n h1, ← hN]
  simp -dsimp -implicitDefEqProofs (disch := first | with_reducible assumption | omega) [go_sem]
  refine xMS_full (e := 5) (z := .int .u8 0) (by kernel_rfl) tI_5 rfl rfl .i64 .i64 _ (by omega) (by simp; omega) (by omega) ?_
  refine xnew fun b1 n_b1 h_b1 => ?_
  try simp only [Apart] at n_b1
  simp -dsimp -implicitDefEqProofs (disch := first | with_reducible assumption | omega) [go_sem]
  refine xloop (γ := Nat × Value × List Int × PH) (0, .slice (some ⟨b1, 0, none⟩) N N, List.replicate N 0, pub h b1 (List.replicate N (.int .u8 0)))
    (fun s => s.1 ≤ 2 ∧ Ints s.2.2.2 .u8 s.2.1 s.2.2.1 ∧ (s.2.2.1.length : Int) = (n + 7) / 8 ∧ PH.le h s.2.2.2 ∧ ∀ i : Nat, getB s.2.2.1 i = ((decide (0 < s.1) && getB xs i) || (decide (1 < s.1) && getB ys i)))
    (fun s => [(15, .int .i64 s.1), (14, .int .i64 2), (13, .slice a 2 ca), (5, s.2.1), (0, .int .i64 n)]) (fun _ => L) (fun s => s.2.2.2) (fun s => 2 - s.1) ?_ ?_ ?_ ?_
  · have sl := pub_sl (h := h) (sz := 1) (n := N) (o := some (b1, N)) (xs := List.replicate N (.int .u8 0)) ⟨Nat.le_refl _, by simp [maxLen]; omega⟩ (by simp) (by omega)
    refine ⟨by simp, ⟨?_, ?_⟩, by simp only [List.length_replicate]; omega, pub_le h_b1 _, fun i => by simp only [getB_zeros]; simp⟩
    · simp only [List.length_replicate, List.map_replicate]; exact sl
    · intro z hz; rw [List.eq_of_mem_replicate hz]; decide
  · simp [Ent, List.lookup, xEnv]
  · exact pub_drop _ _ _ _ _ _
  rintro ⟨k, val, zs, hh⟩ ⟨i0, i1, i2, i3, i5⟩
  simp only at i0 i1 i2 i3 i5
  have hc' : ∀ j, j < 2 → elemCell hh a j = some ([x, y].getD j undef) := fun j hj => elemCell_up i3 (hc j hj)
  by_cases d1 : k < 2
  · rcases (show k = 0 ∨ k = 1 by omega) with rfl | rfl
    · simp -dsimp -implicitDefEqProofs (disch := first | with_reducible assumption | omega) [go_sem, idx hc']
      refine join_any _ _ n i1 (hx.up i3) h1 h2 (chk_of (i1.byte) h1 h2 i2 fun j hj => ?_) cx fun h4 r ws le4 ir lr br => ?_
      · rw [i5 j]; simp
      simp -dsimp -implicitDefEqProofs (disch := first | with_reducible assumption | omega) [go_sem]
      refine ⟨1, r, ws, h4, ⟨by omega, ir, by omega, i3.trans le4, fun i => ?_⟩, by omega, by simp [Ent, List.lookup], Drop.refl _ _⟩
      rw [br i, i5 i]; simp
    · simp -dsimp -implicitDefEqProofs (disch := first | with_reducible assumption | omega) [go_sem, idx hc']
      refine join_any _ _ n i1 (hy.up i3) h1 h2 (chk_of (i1.byte) h1 h2 i2 fun j hj => ?_) cy fun h4 r ws le4 ir lr br => ?_
      · rw [i5 j, chk_beyond hx.byte cx j hj]; simp
      simp -dsimp -implicitDefEqProofs (disch := first | with_reducible assumption | omega) [go_sem]
      refine ⟨2, r, ws, h4, ⟨by omega, ir, by omega, i3.trans le4, fun i => ?_⟩, by omega, by simp [Ent, List.lookup], Drop.refl _ _⟩
      rw [br i, i5 i]; simp
  · have hk2 : k = 2 := by omega
    subst hk2
    simp -dsimp -implicitDefEqProofs (disch := first | with_reducible assumption | omega) [go_sem]
    exact fin_here (hk hh val zs i3 i1 i2 fun i => by rw [i5 i]; simp)

/-- what Merge hands back: the bits are told by what they are -/
def MergeOf (h : PH) (c d : CertD) (r : Value) (e : Int) : Prop :=
  e = alikeC c d ∧ ∃ m, IsCert h r m ∧ if alikeC c d = 0 then m.ep = c.ep ∧ m.mem = c.mem ∧ m.st = c.st ∧ (m.bs.length : Int) = (c.mem + 7) / 8 ∧ ∀ i : Nat, getB m.bs i = (getB c.bs i || getB d.bs i) else m = zeroC
theorem chk_right_c {c : CertD} (hb : ∀ i, 0 ≤ at0 c.bs i ∧ at0 c.bs i ≤ 255) (hr : rightC c = true) : chkB c.bs c.mem = true := by
  have := rightC_head hr
  simp only [headC, Bool.and_eq_true] at this
  rw [chk_right _ _ hb]; exact this.2
theorem alikeC_both {c d : CertD} (h : alikeC c d = 0) : rightC c = true ∧ rightC d = true ∧ c.mem = d.mem := by
  unfold alikeC at h
  cases hr : rightC c with
  | false => rw [hr] at h; simp at h
  | true =>
    cases hr' : rightC d with
    | false => rw [hr, hr'] at h; simp at h
    | true =>
      rw [hr, hr'] at h
      by_cases e : c.mem = d.mem
      · exact ⟨rfl, rfl, e⟩
      · simp [e] at h
set_option maxRecDepth 20000 in
theorem merge_any {c d : CertD} (v u : Value) (hc : IsCert h v c) (hd : IsCert h u d) (hk : ∀ h' r e, PH.le h h' → MergeOf h' c d r e → K (.tuple #[r, .int .i64 e]) L h') : Spec Try.prog 27 [v, u] L h K := by
  have hc0 := hc
  have hd0 := hd
  obtain ⟨sv, bv, rfl, hs, hb, r1, r2, r3, r4⟩ := hc
  obtain ⟨su, bu, rfl, hs', hb', q1, q2, q3, q4⟩ := hd
  have os := hs.open
  obtain ⟨a, ca, rfl, _⟩ := os
  have ob := hb.open
  obtain ⟨b, cb, rfl, _⟩ := ob
  have os' := hs'.open
  obtain ⟨a', ca', rfl, _⟩ := os'
  have ob' := hb'.open
  obtain ⟨b', cb', rfl, _⟩ := ob'
  refine x_enter Try.func27 rfl (rs := [_, _]) rfl rfl mixed (by kernel_rfl) rfl rfl ?_
  simp -dsimp -implicitDefEqProofs (disch := first | with_reducible assumption | omega) [go_sem]
  refine xnew fun b1 n_b1 h_b1 => ?_
  try simp only [Apart] at n_b1
  simp -dsimp -implicitDefEqProofs (disch := first | with_reducible assumption | omega) [go_sem]
  refine xnew fun b2 n_b2 h_b2 => ?_
  try simp only [Apart] at n_b2
  simp -dsimp -implicitDefEqProofs (disch := first | with_reducible assumption | omega) [go_sem]
  refine xnew fun b3 n_b3 h_b3 => ?_
  try simp only [Apart] at n_b3
  simp -dsimp -implicitDefEqProofs (disch := first | with_reducible assumption | omega) [go_sem]
  refine alike_any _ _ hc0 hd0 ?_
  by_cases ha : alikeC c d = 0
  · obtain ⟨hr, hr', em⟩ := alikeC_both ha
    have hh := headC_facts (rightC_head hr)
    have hbl := rightC_len hr
    rw [ha]
    simp -dsimp -implicitDefEqProofs (disch := first | with_reducible assumption | omega) [go_sem]
    refine Spec.ap (own_any _ hc0 (by omega) (by omega) fun h2 r le2 ic ap => ?_)
    simp only [Ap] at ap
    obtain ⟨a3, a2, a1, _⟩ := ap
    obtain ⟨sv', bv', rfl, hs2, hb2, _⟩ := ic
    have os2 := hs2.open
    obtain ⟨x1, y1, rfl, _⟩ := os2
    have ob2 := hb2.open
    obtain ⟨x2, y2, rfl, _⟩ := ob2
    simp -dsimp -implicitDefEqProofs (disch := first | with_reducible assumption | omega) [go_sem]
    refine xnew fun b4 n_b4 h_b4 => ?_
    try simp only [Apart] at n_b4
    simp -dsimp -implicitDefEqProofs (disch := first | with_reducible assumption | omega) [go_sem]
    refine xnew fun b5 n_b5 h_b5 => ?_
    try simp only [Apart] at n_b5
    simp -dsimp -implicitDefEqProofs (disch := first | with_reducible assumption | omega) [go_sem]
    refine call_pub_at (sz := 1) (n := 2) (cap := 2) [] ⟨Nat.le_refl _, by decide⟩ rfl (by decide) h_b5 fun h3 le3 s3 f3 => ?_
    refine Spec.ap (merged_any _ _ _ c.mem s3 (hb.up (le2.trans le3)) (hb'.up (le2.trans le3)) (by omega) (by omega) (chk_right_c hb.byte hr) (by rw [em]; exact chk_right_c hb'.byte hr') fun h4 r zs le4 iz lz bz ap => ?_)
    simp only [Ap, List.nil_append] at ap
    obtain ⟨a4', a3', a2', a1', _⟩ := ap
    have oz := iz.open
    obtain ⟨x3, y3, rfl, _⟩ := oz
    simp -dsimp -implicitDefEqProofs (disch := first | with_reducible assumption | omega) [go_sem]
    refine fin_tail (fin_tail (fin_tail (fin_tail (fin_here (hk h4 _ 0 (le2.trans (le3.trans le4)) ⟨ha.symm, ⟨c.ep, c.mem, c.st, zs⟩, ⟨_, _, rfl, hs2.up (le3.trans le4), iz, r1, r2, r3, r4⟩, ?_⟩)))))
    rw [if_pos ha]
    exact ⟨rfl, rfl, rfl, lz, bz⟩
  · simp -dsimp -implicitDefEqProofs (disch := first | with_reducible assumption | omega) [go_sem]
    refine fin_tail (fin_tail (fin_tail (fin_here (hk h _ _ (PH.le_refl h) ⟨rfl, zeroC, zeroC_is h, by rw [if_neg ha]⟩))))
end Go.X

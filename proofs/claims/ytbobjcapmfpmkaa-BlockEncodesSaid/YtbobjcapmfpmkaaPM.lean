/- The contract of deed.Read, of deed.Decode and deed.Encode. Conditions: the reader is the call's own, its bytes are known. -/
import Derived.Test.YtbobjcapmfpmkaaPL
set_option linter.unusedVariables false
set_option linter.unusedSimpArgs false
namespace Go.X
open Go.RowKit Go.Proofs Go.Bl
variable {L : Own} {h : PH} {K : PK}

theorem rdFields_pos {xs : List Int} {d : DeedD} {s : Nat × Int} {e : Int} (hz : ∀ z ∈ xs, 0 ≤ z ∧ z ≤ 255) (hs : s.1 ≤ xs.length) : (rdFields xs d s e).2.1.1 ≤ xs.length := by
  have pa := (rNum_pos xs s 63 hz hs (by decide)).1
  have hraw : ∀ (t : Nat × Int) most, t.1 ≤ xs.length → 0 ≤ most → (rRaw xs t most).2.1 ≤ xs.length := by
    intro t most ht hm
    have hp := rNum_pos xs t most hz ht hm
    unfold rRaw
    split
    · exact ht
    · simp only
      split
      · exact hp.1
      · split
        · exact ht
        · simp only; omega
  have hamt : ∀ q : DeedD × (Nat × Int) × Int, q.2.1.1 ≤ xs.length → (rdAmt xs q).2.1.1 ≤ xs.length := by
    intro q hq
    unfold rdAmt
    split
    · exact (rNum_pos xs _ _ hz hq (by decide)).1
    · exact hq
  unfold rdFields
  split
  · exact hraw _ _ (rNum_pos xs s _ hz hs (by decide)).1 (by decide)
  · refine hamt _ ?_
    unfold rdBody
    split
    · exact (rNum_pos xs _ _ hz pa (by decide)).1
    · split
      · exact (rNum_pos xs _ _ hz pa (by decide)).1
      · split
        · exact (rdMove_pos hz pa).1
        · split
          · exact (rNum_pos xs _ _ hz (rNum_pos xs _ _ hz (rNum_pos xs _ _ hz pa (by decide)).1 (by decide)).1 (by decide)).1
          · exact pa
set_option maxHeartbeats 4000000 in
set_option maxRecDepth 20000 in
theorem dread_any {br : Nat} {v : Value} {xs : List Int} {s : Nat × Int} (hx : Ints h .u8 v xs) (hs : s.1 ≤ xs.length)
    (hk : ∀ h' bv, PH.le h h' → Ints h' .u8 bv (rdDeed xs s).1.bits → K (.tuple #[deedV (rdDeed xs s).1 bv, .int .i64 (rdDeed xs s).2.1]) (rO br v (rdDeed xs s).2.2 L) h') :
    Spec Try.prog 54 [.pointer (some ⟨br, 0, none⟩)] (rO br v s L) h K := by
  have hz := byte_of hx
  have pk := rNum_pos xs s 255 hz hs (by decide)
  obtain ⟨k, hkk⟩ : ∃ k, k = rNum xs s 255 := ⟨_, rfl⟩
  rw [← hkk] at pk
  have hall : rdAll xs s = if must (wi k.1 1 7) 80 0 k.2.2 = 0 ∧ k.2.2 = 0 then rdFields xs { zeroD with kind := k.1 } k.2 (must (wi k.1 1 7) 80 0 k.2.2) else ({ zeroD with kind := k.1 }, k.2, must (wi k.1 1 7) 80 0 k.2.2) := by rw [hkk]; rfl
  have hdd : rdDeed xs s = if (rdAll xs s).2.1.2 ≠ 0 then (zeroD, (rdAll xs s).2.1.2, (rdAll xs s).2.1) else if (rdAll xs s).2.2 ≠ 0 then (zeroD, (rdAll xs s).2.2, (rdAll xs s).2.1) else ((rdAll xs s).1, 0, (rdAll xs s).2.1) := rfl
  refine x_enterA Try.func54 rfl (rs := [_, _]) rfl rfl mixed (by kernel_rfl) rfl rfl fun ap nd => ?_
  obtain ⟨ap1, _⟩ := ap
  simp only [wO, rO, dO, List.cons_append, List.nil_append]
  simp -dsimp -implicitDefEqProofs (disch := first | with_reducible assumption | omega) [go_sem]
  refine xnew fun b2 n_b2 h_b2 => ?_
  try simp only [Apart] at n_b2
  simp -dsimp -implicitDefEqProofs (disch := first | with_reducible assumption | omega) [go_sem]
  refine xnew fun bx n_bx h_bx => ?_
  try simp only [Apart] at n_bx
  simp -dsimp -implicitDefEqProofs (disch := first | with_reducible assumption | omega) [go_sem]
  refine call_p2 ?_
  refine rint_any (s := s) hx hs (by decide) (by decide) ?_
  rw [← hkk]
  simp only [wO, rO, dO, List.cons_append, List.nil_append]
  simp -dsimp -implicitDefEqProofs (disch := first | with_reducible assumption | omega) [go_sem]
  refine xnew fun bd n_bd h_bd => ?_
  try simp only [Apart] at n_bd
  simp -dsimp -implicitDefEqProofs (disch := first | with_reducible assumption | omega) [go_sem]
  refine dwithin_any _ _ _ ?_
  simp -dsimp -implicitDefEqProofs (disch := first | with_reducible assumption | omega) [go_sem]
  refine call_p2 ?_
  refine call_s1 ?_
  refine must_any (s := k.2) (wi k.1 1 7) ?_
  simp -dsimp -implicitDefEqProofs (disch := first | with_reducible assumption | omega) [go_sem]
  refine going_any (s := k.2) ?_
  by_cases c : must (wi k.1 1 7) 80 0 k.2.2 = 0 ∧ k.2.2 = 0
  · have cb : (decide (must (wi k.1 1 7) 80 0 k.2.2 = 0) && decide (k.2.2 = 0)) = true := by rw [← Bool.decide_and]; exact decide_eq_true c
    rw [cb]
    rw [if_pos c] at hall
    obtain ⟨q, hq⟩ : ∃ q, q = rdFields xs { zeroD with kind := k.1 } k.2 (must (wi k.1 1 7) 80 0 k.2.2) := ⟨_, rfl⟩
    rw [← hq] at hall
    rw [hall] at hdd
    simp -dsimp -implicitDefEqProofs (disch := first | with_reducible assumption | omega) [go_sem]
    refine Spec.apn (xfields_any (d := { zeroD with kind := k.1 }) (s := k.2) rfl hx pk.1 fun h2 bv le2 hb2 ap nd' => ?_)
    rw [← hq] at hb2 ap nd' ⊢
    obtain ⟨qx, qr, qd, q2, _⟩ := ap
    simp only [Nd, Apart] at nd'
    have hb2' := hb2
    have ob2 := hb2.open
    obtain ⟨y1, y2, rfl, _⟩ := ob2
    simp only [xO]
    simp -dsimp -implicitDefEqProofs (disch := first | with_reducible assumption | omega) [go_sem]
    refine call_p1 ?_
    refine rerr_any (s := q.2.1) ?_
    by_cases e1 : q.2.1.2 = 0
    rotate_left
    · rw [if_pos e1] at hdd
      rw [hdd] at hk
      simp only [wO, rO, dO, List.cons_append, List.nil_append]
      simp -dsimp -implicitDefEqProofs (disch := first | with_reducible assumption | omega) [go_sem]
      refine rerr_any (s := q.2.1) ?_
      simp only [wO, rO, dO, List.cons_append, List.nil_append]
      simp -dsimp -implicitDefEqProofs (disch := first | with_reducible assumption | omega) [go_sem]
      exact fin_perm (List.Perm.refl _) (fin_perm (L' := _ :: _ :: _ :: rO br v q.2.1 L) (by exact List.perm_middle (l₁ := [_, _, _]).symm) (fin_tail (fin_tail (fin_tail (fin_here (hk h2 _ le2 (nil_ints _ .u8)))))))
    rw [if_neg (by simpa using e1)] at hdd
    by_cases e2 : q.2.2 = 0
    rotate_left
    · rw [if_pos e2] at hdd
      rw [hdd] at hk
      simp only [wO, rO, dO, List.cons_append, List.nil_append]
      simp -dsimp -implicitDefEqProofs (disch := first | with_reducible assumption | omega) [go_sem]
      refine xanyl (.tk 0 (.tk 1 (.tk 2 (.tk 3 (.or true 4 (.or false 5 (.tk 6 (.fin)) (.nil)) (.or false 5 (.or true 4 (.tk 6 (.fin)) (.nil)) (.nil))))))) (by kernel_rfl) (by kernel_rfl) [⟨bx, 169, [.pointer (some ⟨br, 0, none⟩), .int .i64 q.2.2], 2⟩] (Drop.mem (by simp)) ?_
      repeat' first
        | with_reducible refine xpl_or ?_ ?_
        | with_reducible refine xkp (Drop.mem (by simp)) ?_
        | simp -dsimp -implicitDefEqProofs (disch := first | with_reducible assumption | omega) [go_sem]
      all_goals exact fin_perm (L' := _ :: _ :: _ :: rO br v q.2.1 L) (by exact List.perm_middle (l₁ := [_, _, _]).symm) (fin_tail (fin_tail (fin_tail (fin_here (hk h2 _ le2 (nil_ints _ .u8))))))
    rw [if_neg (by simpa using e2)] at hdd
    rw [hdd] at hk
    simp only [wO, rO, dO, List.cons_append, List.nil_append]
    simp -dsimp -implicitDefEqProofs (disch := first | with_reducible assumption | omega) [go_sem]
    exact fin_perm (L' := _ :: _ :: _ :: rO br v q.2.1 L) (by exact List.perm_middle (l₁ := [_, _, _]).symm) (fin_tail (fin_tail (fin_tail (fin_here (hk h2 _ le2 hb2')))))
  · have cb : (decide (must (wi k.1 1 7) 80 0 k.2.2 = 0) && decide (k.2.2 = 0)) = false := by rw [← Bool.decide_and]; exact decide_eq_false c
    rw [cb]
    rw [if_neg c] at hall
    rw [hall] at hdd
    simp -dsimp -implicitDefEqProofs (disch := first | with_reducible assumption | omega) [go_sem]
    refine call_p1 ?_
    refine rerr_any (s := k.2) ?_
    by_cases e1 : k.2.2 = 0
    rotate_left
    · rw [if_pos (by simpa using e1)] at hdd
      rw [hdd] at hk
      simp only [wO, rO, dO, List.cons_append, List.nil_append]
      simp -dsimp -implicitDefEqProofs (disch := first | with_reducible assumption | omega) [go_sem]
      refine rerr_any (s := k.2) ?_
      simp only [wO, rO, dO, List.cons_append, List.nil_append]
      simp -dsimp -implicitDefEqProofs (disch := first | with_reducible assumption | omega) [go_sem]
      exact fin_perm (L' := _ :: _ :: _ :: rO br v k.2 L) (by exact List.perm_middle (l₁ := [_, _, _]).symm) (fin_tail (fin_tail (fin_tail (fin_here (hk h _ (PH.le_refl h) (nil_ints _ .u8))))))
    have e2 : ¬ must (wi k.1 1 7) 80 0 k.2.2 = 0 := fun hh => c ⟨hh, e1⟩
    rw [if_neg (by simpa using e1), if_pos (by simpa using e2)] at hdd
    rw [hdd] at hk
    simp only [wO, rO, dO, List.cons_append, List.nil_append]
    simp -dsimp -implicitDefEqProofs (disch := first | with_reducible assumption | omega) [go_sem]
    refine xanyl (.tk 0 (.tk 1 (.tk 2 (.tk 3 (.or true 4 (.or false 5 (.tk 6 (.fin)) (.nil)) (.or false 5 (.or true 4 (.tk 6 (.fin)) (.nil)) (.nil))))))) (by kernel_rfl) (by kernel_rfl) [⟨bx, 169, [.pointer (some ⟨br, 0, none⟩), .int .i64 (must (wi k.1 1 7) 80 0 k.2.2)], 2⟩] (Drop.mem (by simp)) ?_
    repeat' first
      | with_reducible refine xpl_or ?_ ?_
      | with_reducible refine xkp (Drop.mem (by simp)) ?_
      | simp -dsimp -implicitDefEqProofs (disch := first | with_reducible assumption | omega) [go_sem]
    all_goals exact fin_perm (L' := _ :: _ :: _ :: rO br v k.2 L) (by exact List.perm_middle (l₁ := [_, _, _]).symm) (fin_tail (fin_tail (fin_tail (fin_here (hk h _ (PH.le_refl h) (nil_ints _ .u8))))))
end Go.X

/- Part of the proof of a statement about the given program: lemmas and contracts. Conditions: as each says. -/
import Derived.Test.YtkmojeioedjfkaaGreatQ37
import Derived.Test.YtkmojeioedjfkaaGreatQ38
/- Plain blocks: lists of deeds as bytes and back; no program in sight. Conditions: none. -/
set_option linter.unusedVariables false
set_option linter.unusedSimpArgs false
namespace Go.X
open Go.RowKit Go.Bl
def encL (l : List DeedD) : List Int := l.flatMap encD
def encB (l : List DeedD) : List Int := formN l.length ++ encL l
theorem encL_cons (d : DeedD) (l : List DeedD) : encL (d :: l) = encD d ++ encL l := rfl
theorem encL_app (a b : List DeedD) : encL (a ++ b) = encL a ++ encL b := by simp [encL]
/-- each is right, each number of its type -/
def AllR (l : List DeedD) : Prop := ∀ d ∈ l, DeedOk d ∧ rightD d = true
theorem encL_len : ∀ {l : List DeedD}, AllR l → (encL l).length ≤ 400 * l.length
  | [], _ => by simp [encL]
  | d :: l, h => by
    have h1 := encD_len (h d (by simp)).1 (h d (by simp)).2
    have h2 := encL_len (l := l) fun x hx => h x (by simp [hx])
    rw [encL_cons, List.length_append, List.length_cons]
    omega
theorem encB_len {l : List DeedD} (h : AllR l) (hl : l.length ≤ 64) : (encB l).length ≤ 26000 ∧ 0 < (encB l).length := by
  have h1 := encL_len h
  have h2 := formN_pos l.length
  have h3 : (formN l.length).length = 1 := by rw [formN_lt (by omega)]; rfl
  simp only [encB, List.length_append]
  omega
/-- as many as are asked: what is read, an error's number, the state behind -/
def rdL (xs : List Int) : Nat → Nat × Int → List DeedD × Int × (Nat × Int)
  | 0, s => ([], 0, s)
  | k + 1, s => if (rdDeed xs s).2.1 ≠ 0 then ([], (rdDeed xs s).2.1, (rdDeed xs s).2.2) else ((rdDeed xs s).1 :: (rdL xs k (rdDeed xs s).2.2).1, (rdL xs k (rdDeed xs s).2.2).2)
/-- what Decode answers: the deeds, the place, an error's number -/
def bdec (xs : List Int) : List DeedD × Int × Int :=
  if 131072 < xs.length then ([], 0, 3)
  else if (rNum xs (0, 0) 64).2.2 ≠ 0 then ([], 0, (rNum xs (0, 0) 64).2.2)
  else if (rdL xs (rNum xs (0, 0) 64).1.toNat (rNum xs (0, 0) 64).2).2.1 ≠ 0 then ([], (rdL xs (rNum xs (0, 0) 64).1.toNat (rNum xs (0, 0) 64).2).1.length, (rdL xs (rNum xs (0, 0) 64).1.toNat (rNum xs (0, 0) 64).2).2.1)
  else if rDone xs (rdL xs (rNum xs (0, 0) 64).1.toNat (rNum xs (0, 0) 64).2).2.2 ≠ 0 then ([], (rNum xs (0, 0) 64).1, rDone xs (rdL xs (rNum xs (0, 0) 64).1.toNat (rNum xs (0, 0) 64).2).2.2)
  else ((rdL xs (rNum xs (0, 0) 64).1.toNat (rNum xs (0, 0) 64).2).1, 0, 0)
theorem rdL_bad {xs : List Int} {k : Nat} {s : Nat × Int} (h : (rdDeed xs s).2.1 ≠ 0) : rdL xs (k + 1) s = ([], (rdDeed xs s).2.1, (rdDeed xs s).2.2) := by rw [rdL, if_pos h]
theorem rdL_ok {xs : List Int} {k : Nat} {s : Nat × Int} (h : (rdDeed xs s).2.1 = 0) : rdL xs (k + 1) s = ((rdDeed xs s).1 :: (rdL xs k (rdDeed xs s).2.2).1, (rdL xs k (rdDeed xs s).2.2).2) := by rw [rdL, if_neg (by simpa using h)]
theorem rdL_ahead {xs rest : List Int} {c : Bool} : ∀ (l : List DeedD) (s : Nat × Int), AllR l → (if c then Short xs s (encL l ++ rest) else s.2 = 0 ∧ xs.drop s.1 = encL l ++ rest) →
    (c = true ∧ (rdL xs l.length s).2.1 = 50) ∨ (rdL xs l.length s).1 = l ∧ (rdL xs l.length s).2.1 = 0 ∧ (if c then Short xs (rdL xs l.length s).2.2 rest else (rdL xs l.length s).2.2.2 = 0 ∧ xs.drop (rdL xs l.length s).2.2.1 = rest)
  | [], s, _, h => Or.inr ⟨rfl, rfl, by simpa [encL, rdL] using h⟩
  | d :: l, s, ha, h => by
    rw [encL_cons, List.append_assoc] at h
    rcases rd_ahead (ha d (by simp)).1 (ha d (by simp)).2 h with ⟨hc, h1⟩ | ⟨h1, h2, h3, _⟩
    · left
      refine ⟨hc, ?_⟩
      rw [List.length_cons, rdL_bad (by omega)]
      exact h1
    · rw [List.length_cons, rdL_ok h2]
      rcases rdL_ahead l _ (fun x hx => ha x (by simp [hx])) h3 with ⟨hc, h4⟩ | ⟨h4, h5, h6⟩
      · exact Or.inl ⟨hc, h4⟩
      · exact Or.inr ⟨by rw [h1]; simp only [h4], h5, h6⟩
theorem rdL_sound {xs : List Int} (hz : ∀ z ∈ xs, 0 ≤ z ∧ z ≤ 255) : ∀ (k : Nat) (s : Nat × Int), s.1 ≤ xs.length → s.2 = 0 → (rdL xs k s).2.1 = 0 →
    (rdL xs k s).2.2.2 = 0 ∧ (rdL xs k s).2.2.1 ≤ xs.length ∧ (rdL xs k s).1.length = k ∧ AllR (rdL xs k s).1 ∧ xs.drop s.1 = encL (rdL xs k s).1 ++ xs.drop (rdL xs k s).2.2.1
  | 0, s, h1, h2, _ => ⟨h2, h1, rfl, (fun d hd => by cases hd), rfl⟩
  | k + 1, s, h1, h2, h => by
    by_cases c : (rdDeed xs s).2.1 = 0
    · rw [rdL_ok c] at h ⊢
      have hd : rdDeed xs s = ((rdDeed xs s).1, 0, (rdDeed xs s).2.2) := Prod.ext rfl (Prod.ext c rfl)
      obtain ⟨_, t2, t1, r1, r2, _, r3⟩ := rd_sound hz h1 hd
      obtain ⟨q1, q2, q3, q4, q5⟩ := rdL_sound hz k _ t1 t2 h
      refine ⟨q1, q2, by simp only [List.length_cons, q3], fun d hd => ?_, ?_⟩
      · rcases List.mem_cons.1 hd with rfl | hd
        · exact ⟨r2, r1⟩
        · exact q4 d hd
      · rw [r3, q5, encL_cons, List.append_assoc]
    · rw [rdL_bad c] at h
      exact absurd h c
theorem rdL_pos {xs : List Int} (hz : ∀ z ∈ xs, 0 ≤ z ∧ z ≤ 255) {s : Nat × Int} (h1 : s.1 ≤ xs.length) (h : (rdDeed xs s).2.1 = 0) : (rdDeed xs s).2.2.1 ≤ xs.length ∧ (rdDeed xs s).2.2.2 = 0 ∧ DeedOk (rdDeed xs s).1 := by
  have hd : rdDeed xs s = ((rdDeed xs s).1, 0, (rdDeed xs s).2.2) := Prod.ext rfl (Prod.ext h rfl)
  obtain ⟨_, t2, t1, _, r2, _⟩ := rd_sound hz h1 hd
  exact ⟨t1, t2, r2⟩
theorem bdec_enc {l : List DeedD} (ha : AllR l) (hl : l.length ≤ 64) : bdec (encB l) = (l, 0, 0) := by
  have hlen := encB_len ha hl
  obtain ⟨n1, n2⟩ := rNum_form (xs := encB l) (k := 0) (n := l.length) (most := 64) (rest := encL l) (by simp [encB]) (by omega) (by omega)
  have hs : (rNum (encB l) (0, 0) 64).1.toNat = l.length := by rw [n1]; simp
  simp only [bdec]
  rw [if_neg (by omega), hs, n1]
  rcases rdL_ahead (xs := encB l) (rest := []) (c := false) l (0 + (formN l.length).length, 0) ha (by simpa using n2) with ⟨h, _⟩ | ⟨h1, h2, h3⟩
  · cases h
  · simp only [Bool.false_eq_true, if_false] at h3
    have h4 := List.drop_eq_nil_iff.1 h3.2
    have hd : rDone (encB l) (rdL (encB l) l.length (0 + (formN l.length).length, 0)).2.2 = 0 := by
      simp only [rDone]
      rw [if_neg (by omega)]
      exact h3.1
    simp only [h2, hd, h1]
    simp
theorem bdec_sound {xs : List Int} (hz : ∀ z ∈ xs, 0 ≤ z ∧ z ≤ 255) (h : (bdec xs).2.2 = 0) : AllR (bdec xs).1 ∧ (bdec xs).1.length ≤ 64 ∧ encB (bdec xs).1 = xs := by
  have hp := rNum_pos xs (0, 0) 64 hz (Nat.zero_le _) (by decide)
  simp only [bdec] at h ⊢
  split at h
  · simp at h
  rename_i c0
  split at h
  · rename_i c1; exact absurd h c1
  rename_i c1
  split at h
  · rename_i c2; exact absurd h c2
  rename_i c2
  split at h
  · rename_i c3; exact absurd h c3
  rename_i c3
  rw [if_neg c0, if_neg c1, if_neg c2, if_neg c3]
  have c1 : (rNum xs (0, 0) 64).2.2 = 0 := by simpa using c1
  have c2 := Decidable.of_not_not c2
  have c3 := Decidable.of_not_not c3
  obtain ⟨_, n, m1, m2, m3, m4, m5, m6⟩ := rNum_sound (xs := xs) (s := (0, 0)) (most := 64) (v := (rNum xs (0, 0) 64).1) (k := (rNum xs (0, 0) 64).2.1) hz (Prod.ext rfl (Prod.ext rfl c1))
  obtain ⟨q1, q2, q3, q4, q5⟩ := rdL_sound hz _ _ hp.1 c1 c2
  refine ⟨q4, by rw [q3]; omega, ?_⟩
  simp only [rDone] at c3
  rw [encB, q3]
  have hn : (rNum xs (0, 0) 64).1.toNat = n := by omega
  by_cases hl : (rdL xs (rNum xs (0, 0) 64).1.toNat (rNum xs (0, 0) 64).2).2.2.1 < xs.length
  · rw [if_pos ⟨q1, hl⟩] at c3; simp at c3
  · have hnil : xs.drop (rdL xs (rNum xs (0, 0) 64).1.toNat (rNum xs (0, 0) 64).2).2.2.1 = [] := List.drop_eq_nil_of_le (by omega)
    rw [hnil, List.append_nil] at q5
    rw [List.drop_zero] at m4
    rw [← q5, hn]
    exact m4.symm
theorem encL_byte {l : List DeedD} (hb : ∀ d ∈ l, ∀ z ∈ d.bits, 0 ≤ z ∧ z ≤ 255) : ∀ z ∈ encL l, 0 ≤ z ∧ z ≤ 255 := by
  intro z hz
  obtain ⟨d, hd, hz⟩ := List.mem_flatMap.1 hz
  exact encD_byte (hb d hd) z hz
theorem encB_byte {l : List DeedD} (hb : ∀ d ∈ l, ∀ z ∈ d.bits, 0 ≤ z ∧ z ≤ 255) : ∀ z ∈ encB l, 0 ≤ z ∧ z ≤ 255 := by
  intro z hz
  rcases List.mem_append.1 hz with hz | hz
  · exact formN_byte _ z hz
  · exact encL_byte hb z hz
end Go.X
/- The contract of block.Decode. Conditions: the value reads as bytes. -/
set_option linter.unusedVariables false
set_option linter.unusedSimpArgs false
namespace Go.X
open Go.RowKit Go.Proofs Go.Bl
variable {L : Own} {h : PH} {K : PK}
set_option maxHeartbeats 4000000 in
set_option maxRecDepth 20000 in
theorem bdec_any {xs : List Int} (v : Value) (hx0 : Ints h .u8 v xs) (hk : ∀ h' r l, PH.le h h' → Deeds h' r l → dl l = (bdec xs).1 → K (.tuple #[r, .int .i64 (bdec xs).2.1, .int .i64 (bdec xs).2.2]) L h') :
    Spec Tryz.prog 84 [v] L h K := by
  have hz := byte_of hx0
  have ox := hx0.open
  obtain ⟨xa, xc, rfl, _, hxl, _⟩ := ox
  refine x_enter Tryz.func84 rfl (rs := [_, _, _]) rfl rfl mixed (by kernel_rfl) rfl rfl ?_
  simp -dsimp -implicitDefEqProofs (disch := first | with_reducible assumption | omega) [go_sem]
  by_cases c0 : (xs.length : Int) > 131072
  · have e : bdec xs = ([], 0, 3) := by rw [bdec, if_pos (by omega)]
    rw [e] at hk
    simp -dsimp -implicitDefEqProofs (disch := first | with_reducible assumption | omega) [go_sem]
    exact fin_here (hk h _ [] (PH.le_refl _) (Deeds.nil h) rfl)
  simp -dsimp -implicitDefEqProofs (disch := first | with_reducible assumption | omega) [go_sem]
  refine Spec.apn (open_any _ hx0 (by omega) fun h2 br rv le2 hr2 ap nd => ?_)
  simp only [Ap] at ap
  obtain ⟨ap1, _⟩ := ap
  simp -dsimp -implicitDefEqProofs (disch := first | with_reducible assumption | omega) [go_sem]
  refine Spec.apn (rint_any (most := 64) hr2 (Nat.zero_le _) (by decide) (by decide) ?_)
  intro ap nd
  have hp := rNum_pos xs (0, 0) 64 hz (Nat.zero_le _) (by decide)
  obtain ⟨n, s0, hns⟩ : ∃ n s0, rNum xs (0, 0) 64 = (n, s0) := ⟨_, _, rfl⟩
  rw [hns] at hp ⊢
  simp only at hp ⊢
  simp only [wO, rO, List.cons_append, List.nil_append]
  simp -dsimp -implicitDefEqProofs (disch := first | with_reducible assumption | omega) [go_sem]
  refine rerr_any (s := s0) ?_
  simp only [wO, rO, List.cons_append, List.nil_append]
  simp -dsimp -implicitDefEqProofs (disch := first | with_reducible assumption | omega) [go_sem]
  have eb : bdec xs = if s0.2 ≠ 0 then ([], 0, s0.2) else if (rdL xs n.toNat s0).2.1 ≠ 0 then ([], ((rdL xs n.toNat s0).1.length : Int), (rdL xs n.toNat s0).2.1) else if rDone xs (rdL xs n.toNat s0).2.2 ≠ 0 then ([], n, rDone xs (rdL xs n.toNat s0).2.2) else ((rdL xs n.toNat s0).1, 0, 0) := by
    rw [bdec, if_neg (by omega), hns]
  by_cases c1 : s0.2 = 0
  rotate_left
  · rw [if_pos c1] at eb
    rw [eb] at hk
    simp -dsimp -implicitDefEqProofs (disch := first | with_reducible assumption | omega) [go_sem]
    exact fin_tail (fin_here (hk h2 _ [] le2 (Deeds.nil _) rfl))
  rw [if_neg (by simpa using c1)] at eb
  simp -dsimp -implicitDefEqProofs (disch := first | with_reducible assumption | omega) [go_sem]
  obtain ⟨m, rfl⟩ := Int.eq_ofNat_of_zero_le hp.2.1
  rw [Int.toNat_natCast] at eb
  refine xloop (γ := Nat × Option (Nat × Nat) × List QD × (Nat × Int) × PH) (0, none, [], s0, h2)
    (fun s => s.1 ≤ m ∧ okO s.2.1 s.1 ∧ apO s.2.1 (rO br rv s.2.2.2.1 L) s.2.2.2.2 ∧ s.2.2.1.length = s.1 ∧ (∀ q ∈ s.2.2.1, IsDeed s.2.2.2.2 q.1 q.2) ∧ s.2.2.2.1.1 ≤ xs.length ∧ s.2.2.2.1.2 = 0 ∧ PH.le h2 s.2.2.2.2 ∧ s.2.2.2.2 br = noC ∧
      rdL xs m s0 = (dl s.2.2.1 ++ (rdL xs (m - s.1) s.2.2.2.1).1, (rdL xs (m - s.1) s.2.2.2.1).2))
    (fun s => [(25, .int .i64 s.1), (24, .int .i64 m), (5, .pointer (some ⟨br, 0, none⟩)), (6, .int .i64 m), (2, ovs s.2.1 s.1)])
    (fun s => rO br rv s.2.2.2.1 (oent 52 34 s.2.1 (cellsL s.2.2.1) L)) (fun s => s.2.2.2.2) (fun s => m - s.1) ?_ ?_ ?_ ?_
  · exact ⟨Nat.zero_le _, rfl, trivial, rfl, (fun q hq => by cases hq), hp.1, c1, PH.le_refl _, ap1, by simp [dl]⟩
  · simp [Ent, List.lookup, xEnv, ovs]
  · exact Drop.refl _ _
  rintro ⟨k, o, acc, s, hh⟩ ⟨i1, i2, i3, i4, i5, i6, i7, i8, i9, i10⟩
  simp only at i1 i2 i3 i4 i5 i6 i7 i8 i9 i10 ⊢
  by_cases c2 : k < m
  · obtain ⟨u, hu⟩ : ∃ u, m - k = u + 1 := ⟨m - k - 1, by omega⟩
    rw [hu] at i10
    simp only [wO, rO, List.cons_append, List.nil_append]
    simp -dsimp -implicitDefEqProofs (disch := first | with_reducible assumption | omega) [go_sem]
    refine Spec.apn (dread_any (hr2.up i8) i6 fun h4 bv le4 hb4 ap nd => ?_)
    have ob4 := hb4.open
    obtain ⟨x4, y4, rfl, _⟩ := ob4
    obtain ⟨d, e, s', hd⟩ : ∃ d e s', rdDeed xs s = (d, e, s') := ⟨_, _, _, rfl⟩
    rw [hd] at hb4 ap nd ⊢
    simp only at hb4 ap nd ⊢
    simp only [rO, Ap] at ap
    obtain ⟨u1, u2⟩ := ap
    simp only [wO, rO, List.cons_append, List.nil_append]
    simp -dsimp -implicitDefEqProofs (disch := first | with_reducible assumption | omega) [go_sem]
    refine xnew fun b1 n_b1 h_b1 => ?_
    try simp only [Apart] at n_b1
    simp -dsimp -implicitDefEqProofs (disch := first | with_reducible assumption | omega) [go_sem]
    by_cases c3 : e = 0
    rotate_left
    · rw [rdL_bad (by rw [hd]; exact c3), hd] at i10
      simp only [List.append_nil] at i10
      rw [i10] at eb
      simp only at eb
      rw [if_pos c3, dl_len, i4] at eb
      rw [eb] at hk
      simp -dsimp -implicitDefEqProofs (disch := first | with_reducible assumption | omega) [go_sem]
      exact fin_tail (fin_tail (fin_oent (fin_here (hk h4 _ [] (le2.trans (i8.trans le4)) (Deeds.nil _) rfl))))
    subst c3
    have hps := rdL_pos hz i6 (by rw [hd])
    rw [rdL_ok (by rw [hd]), hd] at i10
    rw [hd] at hps
    simp only at i10 hps
    simp -dsimp -implicitDefEqProofs (disch := first | with_reducible assumption | omega) [go_sem]
    refine xnew fun b2 n_b2 h_b2 => ?_
    try simp only [Apart] at n_b2
    simp -dsimp -implicitDefEqProofs (disch := first | with_reducible assumption | omega) [go_sem]
    refine xappend (t := 73) (e := 52) (sz := 34) (bytes := 288) (by kernel_rfl) tI_52 rfl rfl rfl rfl (by decide) [_, _, _] L o k (cellsL acc) i2 (by rw [cellsL_len, i4]) (Src.own List.mem_cons_self) (m := 1) (news := qC (.slice x4 d.bits.length y4, d)) rfl (qC_one _ rfl) (by simp [maxLen]; omega) (by omega) ?_
    intro o' j1 j2 j3
    simp -dsimp -implicitDefEqProofs (disch := first | with_reducible assumption | omega) [go_sem]
    refine ⟨k + 1, o', acc ++ [(.slice x4 d.bits.length y4, d)], s'.1, s'.2, h4, ⟨by omega, j1, apO_tail (apO_tail j2), by simp [i4], ?_, hps.1, hps.2.1, i8.trans le4, u1, ?_⟩, by omega, by simp [Ent, List.lookup], ?_⟩
    · intro qa qb hq
      have hq : (qa, qb) ∈ acc ++ [(.slice x4 d.bits.length y4, d)] := by simpa using hq
      rcases List.mem_append.1 hq with hq | hq
      · exact (i5 (qa, qb) hq).up le4
      · have := List.mem_singleton.1 hq
        injection this with e1 e2
        subst e1; subst e2
        exact ⟨hb4, hps.2.2⟩
    · rw [i10, show m - (k + 1) = u by omega, dl_app]
      simp [dl]
    · rw [cellsL_app, cellsL_one]
      exact (Drop.tail _ _ _).trans (Drop.tail _ _ _)
  · have hkm : k = m := by omega
    subst hkm
    rw [Nat.sub_self] at i10
    simp only [rdL, List.append_nil] at i10
    rw [i10] at eb
    simp only [ne_eq, not_true_eq_false, if_false] at eb
    simp only [wO, rO, List.cons_append, List.nil_append]
    simp -dsimp -implicitDefEqProofs (disch := first | with_reducible assumption | omega) [go_sem]
    refine Spec.apn (rdone_any (s := s) (hr2.up i8) ?_)
    intro ap nd
    by_cases c4 : rDone xs s = 0
    rotate_left
    · rw [if_pos c4] at eb
      rw [eb] at hk
      simp only [wO, rO, List.cons_append, List.nil_append]
      simp -dsimp -implicitDefEqProofs (disch := first | with_reducible assumption | omega) [go_sem]
      exact fin_tail (fin_oent (fin_here (hk hh _ [] (le2.trans i8) (Deeds.nil _) rfl)))
    · rw [if_neg (by simpa using c4)] at eb
      rw [eb] at hk
      rw [c4]
      simp only [wO, rO, List.cons_append, List.nil_append]
      simp -dsimp -implicitDefEqProofs (disch := first | with_reducible assumption | omega) [go_sem]
      refine fin_tail (fin_pub (n := acc.length) (by rw [i4]; exact i2) (cellsL_len acc) (by omega) (apO_tail i3) fun h' le sl => fin_here ?_)
      rw [← i4]
      exact hk h' _ acc (le2.trans (i8.trans le)) ⟨sl, fun q hq => (i5 q hq).up le⟩ rfl
end Go.X

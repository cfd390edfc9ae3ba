/- Part of the proof of a statement about the given program: lemmas and contracts. Conditions: as each says. -/
import Derived.Test.YtkmojeioedjfkaaGreatQ35
import Derived.Test.YtkmojeioedjfkaaGreatQ43
/- Contracts of bullionlaw25's few and bytes. Conditions: the value reads as a list of deeds. -/
set_option linter.unusedVariables false
set_option linter.unusedSimpArgs false
set_option maxRecDepth 20000
namespace Go.X
open Go.RowKit Go.Proofs Go.Bl
variable {L : Own} {h : PH} {K : PK}
def few25 (l : List DeedD) : Bool := decide (l.length ≤ 64) && l.all (fun d => decide (d.bits.length ≤ 100))
def actC (v : Value) : List Value := [.int .i64 0, v]
theorem few25_iff {l : List QD} : few25 (dl l) = true ↔ l.length ≤ 64 ∧ ∀ j, j < l.length → (gq l j).2.bits.length ≤ 100 := by
  simp only [few25, Bool.and_eq_true, decide_eq_true_eq, List.all_eq_true, dl_len]
  exact and_congr Iff.rfl ⟨fun q j hj => q _ (mem_gq hj), fun q => of_gq q⟩
set_option maxHeartbeats 3200000 in
theorem few25_any {l : List QD} {a : Option Addr} {c : Nat} {dv : Value} (hs : Recs actC 2 h (.slice a 1 c) [dv]) (hd0 : Deeds h dv l) (hk : K (.bool (few25 (dl l))) L h) : Spec Tryz.prog 22 [.slice a 1 c, .int .i64 1] L h K := by
  obtain ⟨a2, c2, rfl, hc, hl, _, hd⟩ := hd0.open
  have no : few25 (dl l) = false → K (.bool false) L h := fun e => by rwa [e] at hk
  have hg0 : gr (.slice none 0 0) [(.slice a2 l.length c2 : Value)] 0 = .slice a2 l.length c2 := rfl
  refine x_enter Tryz.func22 rfl (rs := [_]) rfl rfl mixed (by kernel_rfl) rfl rfl ?_
  simp -dsimp -implicitDefEqProofs (disch := first | with_reducible assumption | omega) [go_sem]
  refine xloop' (0 : Nat) (fun k => k ≤ 1 ∧ (k = 1 → few25 (dl l) = true)) (fun k => [(11, .int .i64 k), (10, .int .i64 1), (9, .slice a 1 c), (1, .int .i64 1), (0, .slice a 1 c)]) (fun k => 1 - k) ?_ ?_ ?_
  · exact ⟨by omega, fun e => by omega⟩
  · simp [Ent, List.lookup, xEnv]
  rintro k ⟨k1, k2⟩
  by_cases c1 : k < 1
  · have hk0 : k = 0 := by omega
    have hgk : gr (.slice none 0 0) [(.slice a2 l.length c2 : Value)] k = .slice a2 l.length c2 := by rw [hk0]; rfl
    have hl1 : [(.slice a2 l.length c2 : Value)].length = 1 := rfl
    obtain ⟨Z, hZ⟩ : ∃ Z, Z = [(.slice a2 l.length c2 : Value)] := ⟨_, rfl⟩
    rw [← hZ] at hs hl1 hgk
    simp -dsimp -implicitDefEqProofs (disch := first | with_reducible assumption | omega) [go_sem, ↓idxR (.slice none 0 0) (by decide) hs, actC, hgk]
    refine xnew fun b6 n_b6 h_b6 => ?_
    try simp only [Apart] at n_b6
    simp -dsimp -implicitDefEqProofs (disch := first | with_reducible assumption | omega) [go_sem, actC, hgk]
    by_cases c3 : (64 : Int) < l.length
    · have hf : few25 (dl l) = false := by
        cases hh : few25 (dl l) with
        | false => rfl
        | true => have := (few25_iff.1 hh).1; omega
      simp -dsimp -implicitDefEqProofs (disch := first | with_reducible assumption | omega) [go_sem]
      exact fin_tail (fin_here (no hf))
    simp -dsimp -implicitDefEqProofs (disch := first | with_reducible assumption | omega) [go_sem]
    refine xloop' (0 : Nat) (fun j => j ≤ l.length ∧ ∀ i, i < j → (gq l i).2.bits.length ≤ 100) (fun j => [(22, .int .i64 j), (21, .int .i64 l.length), (20, .slice a2 l.length c2), (11, .int .i64 k), (10, .int .i64 1), (9, .slice a 1 c), (1, .int .i64 1), (0, .slice a 1 c)]) (fun j => l.length - j) ?_ ?_ ?_
    · exact ⟨by omega, fun e => by omega⟩
    · simp [Ent, List.lookup, xEnv]
    rintro j ⟨j1, j2⟩
    by_cases c4 : j < l.length
    · have hi := (hd.at c4).i
      obtain ⟨x1, y1, hv, hy, hly, _⟩ := hi.open
      simp -dsimp -implicitDefEqProofs (disch := first | with_reducible assumption | omega) [go_sem, ↓idxD hd]
      refine xnew fun b8 n_b8 h_b8 => ?_
      try simp only [Apart] at n_b8
      simp -dsimp -implicitDefEqProofs (disch := first | with_reducible assumption | omega) [go_sem, hv]
      by_cases c5 : (100 : Int) < (gq l j).2.bits.length
      · have hf : few25 (dl l) = false := by
          cases hh : few25 (dl l) with
          | false => rfl
          | true => have := (few25_iff.1 hh).2 j c4; omega
        simp -dsimp -implicitDefEqProofs (disch := first | with_reducible assumption | omega) [go_sem]
        exact fin_tail (fin_tail (fin_here (no hf)))
      · simp -dsimp -implicitDefEqProofs (disch := first | with_reducible assumption | omega) [go_sem]
        refine ⟨j + 1, ⟨by omega, fun i hi => ?_⟩, by omega, by simp [Ent, List.lookup], Drop.tail _ _ _⟩
        by_cases e : i = j
        · subst e; omega
        · exact j2 i (by omega)
    · simp -dsimp -implicitDefEqProofs (disch := first | with_reducible assumption | omega) [go_sem]
      refine ⟨k + 1, ⟨by omega, fun _ => few25_iff.2 ⟨by omega, fun i hi => j2 i (by omega)⟩⟩, by omega, by simp [Ent, List.lookup], Drop.tail _ _ _⟩
  · have hk1 : k = 1 := by omega
    subst hk1
    rw [k2 rfl] at hk
    simp -dsimp -implicitDefEqProofs (disch := first | with_reducible assumption | omega) [go_sem]
    exact fin_here hk
def bytes25 (l : List DeedD) : List Int := if l.all rightD then encB l else []
set_option maxHeartbeats 3200000 in
theorem bytes25_any {l : List QD} {dv : Value} (hd0 : Deeds h dv l) (hn : l.length ≤ 64) (hk : ∀ h' r, PH.le h h' → Ints h' .u8 r (bytes25 (dl l)) → K r L h') : Spec Tryz.prog 23 [dv] L h K := by
  obtain ⟨a, c, rfl, hc, hl, _, hd⟩ := hd0.open
  refine x_enter Tryz.func23 rfl (rs := [_]) rfl rfl mixed (by kernel_rfl) rfl rfl ?_
  simp -dsimp -implicitDefEqProofs (disch := first | with_reducible assumption | omega) [go_sem]
  refine xloop (γ := Nat × PH × Option (Nat × Nat)) (0, h, none) (fun s => s.1 ≤ l.length ∧ PH.le h s.2.1 ∧ okO s.2.2 s.1 ∧ apO s.2.2 L s.2.1 ∧ ∀ j, j < s.1 → rightD (gq l j).2 = true) (fun s => [(9, .int .i64 s.1), (8, .int .i64 l.length), (7, .slice a l.length c), (3, ovs s.2.2 s.1)])
    (fun s => oent 68 34 s.2.2 (cellsL (l.take s.1)) L) (fun s => s.2.1) (fun s => l.length - s.1) ?_ ?_ ?_ ?_
  · exact ⟨Nat.zero_le _, PH.le_refl _, rfl, trivial, fun j hj => by omega⟩
  · simp [Ent, List.lookup, xEnv, ovs]
  · exact Drop.refl _ _
  rintro ⟨k, hg, o⟩ ⟨k1, k2, k3, k4, k5⟩
  simp only at k1 k2 k3 k4 k5 ⊢
  have hlt : (l.take k).length = k := by simp [k1]
  have hdg := hd.up k2
  by_cases c1 : k < l.length
  · have hdk := hdg.at c1
    have hi := hdk.i
    obtain ⟨x1, y1, hv, hy, hly, _⟩ := hi.open
    have et : l.take (k + 1) = l.take k ++ [gq l k] := by rw [gq_lt c1, List.take_succ_eq_append_getElem c1]
    simp -dsimp -implicitDefEqProofs (disch := first | with_reducible assumption | omega) [go_sem, ↓idxD hdg]
    refine xnew fun b5 n_b5 h_b5 => ?_
    try simp only [Apart] at n_b5
    simp -dsimp -implicitDefEqProofs (disch := first | with_reducible assumption | omega) [go_sem, hv]
    rw [hv] at hi hdk
    refine plain8_any (d := (gq l k).2) _ hi ?_
    simp -dsimp -implicitDefEqProofs (disch := first | with_reducible assumption | omega) [go_sem]
    refine xnew fun b6 n_b6 h_b6 => ?_
    try simp only [Apart] at n_b6
    simp -dsimp -implicitDefEqProofs (disch := first | with_reducible assumption | omega) [go_sem]
    refine Spec.apn (right8_any (d := (gq l k).2) _ hdk fun h7 le7 ap nd => ?_)
    obtain ⟨a76, a75, ap⟩ := ap
    have a7 : apO o L h7 := by
      cases o with
      | none => trivial
      | some p => exact ⟨nd.2.2.1, ap.1⟩
    cases c2 : rightD (gq l k).2 with
    | false =>
      have e : bytes25 (dl l) = [] := by
        rw [bytes25, if_neg]
        intro q
        have := List.all_eq_true.1 q _ (mem_gq c1)
        rw [c2] at this
        cases this
      rw [e] at hk
      simp -dsimp -implicitDefEqProofs (disch := first | with_reducible assumption | omega) [go_sem]
      exact fin_tail (fin_tail (fin_oent (fin_here (hk h7 _ (k2.trans le7) (nil_ints h7 .u8)))))
    | true =>
      simp -dsimp -implicitDefEqProofs (disch := first | with_reducible assumption | omega) [go_sem]
      refine xnew fun b8 n_b8 h_b8 => ?_
      try simp only [Apart] at n_b8
      simp -dsimp -implicitDefEqProofs (disch := first | with_reducible assumption | omega) [go_sem]
      refine xappend (t := 167) (e := 68) (sz := 34) (bytes := 288) (by kernel_rfl) tI_68 rfl rfl rfl rfl (by decide) [_, _, _] L o k (cellsL (l.take k)) k3 (by rw [cellsL_len, hlt]) (Src.own List.mem_cons_self) (m := 1) (news := qC (.slice x1 (gq l k).2.bits.length y1, (gq l k).2)) rfl (qC_one _ rfl) (by simp [maxLen]; omega) (by omega) ?_
      intro o' j1 j2 j3
      simp -dsimp -implicitDefEqProofs (disch := first | with_reducible assumption | omega) [go_sem]
      refine ⟨k + 1, h7, o', ⟨by omega, k2.trans le7, j1, apO_tail (apO_tail (apO_tail j2)), fun j hj => ?_⟩, by omega, by simp [Ent, List.lookup], ?_⟩
      · by_cases e : j = k
        · subst e; exact c2
        · exact k5 j (by omega)
      · rw [et, cellsL_app, cellsL_one, show gq l k = (.slice x1 (gq l k).2.bits.length y1, (gq l k).2) from Prod.ext hv rfl]
        exact (Drop.tail _ _ _).trans ((Drop.tail _ _ _).trans (Drop.tail _ _ _))
  · have hkl : k = l.length := by omega
    subst hkl
    have e : bytes25 (dl l) = encB (dl l) := by
      rw [bytes25, if_pos]
      exact List.all_eq_true.2 (of_gq k5)
    rw [e] at hk
    rw [List.take_length]
    obtain ⟨oa, oc, eo, _⟩ := ovs_open k3
    simp -dsimp -implicitDefEqProofs (disch := first | with_reducible assumption | omega) [go_sem, eo]
    refine call_pub (e := 68) (sz := 34) (o := o) (xs := cellsL l) (n := l.length) k3 (cellsL_len l) (by omega) k4 fun h7 le7 sl => ?_
    have hd7 : Deeds h7 (.slice oa l.length oc) l := ⟨eo ▸ sl, fun q hq => (hdg.d q hq).up le7⟩
    refine form9_any _ hd7 hn (of_gq k5) fun h8 r le8 hr8 => ?_
    have hr := hr8
    obtain ⟨ra, rc, rfl, _⟩ := hr8.open
    simp -dsimp -implicitDefEqProofs (disch := first | with_reducible assumption | omega) [go_sem]
    exact fin_here (hk h8 _ (k2.trans (le7.trans le8)) hr)
end Go.X

/- Plain laws of adoption: what is adopted fits; to adopt the parameters that there are changes nothing. Conditions: a state that fits, right parameters (no function of the program). -/
import Derived.Test.YtfilkbfkhdaakaaGreatUL
set_option linter.unusedVariables false
set_option linter.unusedSimpArgs false
set_option maxRecDepth 20000
namespace Go.X
open Go.RowKit Go.Proofs Go.Bl
/-- what fits tells of its members -/
theorem fits_mem {s : StD} (hf : fitsS s = true) : ∀ m ∈ s.members, mfitsB s.par m = true ∧ 0 ≤ m.owner ∧ m.owner < s.purses.length := by
  simp only [fitsS, Bool.and_eq_true] at hf
  obtain ⟨⟨⟨⟨⟨⟨⟨⟨f1, f2⟩, f3⟩, f4⟩, f5⟩, f6⟩, f7⟩, f8⟩, f9⟩ := hf
  simp only [membersB, Bool.and_eq_true, List.all_eq_true] at f5
  intro m hm
  have h1 := f5.1.1.2 m hm
  refine ⟨h1.1, ?_⟩
  have h2 := h1.2
  rw [acctB, wi_iff] at h2
  omega
theorem mfits_facts {p : ParD} {m : MemD} (h : mfitsB p m = true) : (0 ≤ m.owner ∧ m.owner < 64) ∧ min m.score p.scoreCap = m.score ∧ min (max m.streak 0) p.streak = m.streak ∧ shapeB p m = true := by
  simp only [mfitsB, Bool.and_eq_true, decide_eq_true_eq] at h
  obtain ⟨⟨⟨h1, h2⟩, h3⟩, h4⟩ := h
  simp only [stdL, trimM, List.cons.injEq, and_true, true_and] at h3
  exact ⟨⟨h1, h2⟩, h3.1, h3.2, h4⟩
theorem shape_cap {p : ParD} (hr : parR p = true) {m : MemD} (h : shapeB p m = true) : m.bal ≤ p.cap := by
  have hs : stakesB p = true := by simp only [parR, Bool.and_eq_true] at hr; exact hr.1.1.1
  have f := stakesB_facts hs
  unfold shapeB at h
  split at h
  · simp only [Bool.and_eq_true, decide_eq_true_eq] at h; omega
  · split at h
    · simp only [Bool.and_eq_true, decide_eq_true_eq] at h; omega
    · split at h
      · simp only [Bool.and_eq_true, decide_eq_true_eq] at h; omega
      · cases h
theorem clamp_self {p : ParD} (hr : parR p = true) {m : MemD} (h : mfitsB p m = true) : clampM p m = m := by
  obtain ⟨_, h2, h3, h4⟩ := mfits_facts h
  have h5 := shape_cap hr h4
  rw [clampM, trimM]
  obtain ⟨b, e, sc, st, o, ss⟩ := m
  simp only at h2 h3 h5 ⊢
  rw [h2, h3, show min b p.cap = b by omega]
theorem eject_no {p : ParD} {m : MemD} (h : mfitsB p m = true) : ¬ ejP p m := by
  obtain ⟨_, _, _, h4⟩ := mfits_facts h
  rintro ⟨c, e⟩
  rw [shapeB, if_pos c] at h4
  simp only [Bool.and_eq_true, decide_eq_true_eq] at h4
  omega
theorem set_self {p : ParD} {m : MemD} (h : mfitsB p m = true) : setF p m = m := by
  obtain ⟨_, _, _, h4⟩ := mfits_facts h
  unfold setF
  split
  · rename_i c
    rw [shapeB, if_pos c] at h4
    simp only [Bool.and_eq_true, decide_eq_true_eq] at h4
    have g := h4.2
    have gn : nextP p m.eff m.bal = m.eff := by
      have := g
      simp only [gfitsP, Bool.and_eq_true, decide_eq_true_eq] at this
      exact this.2
    rw [settleM, gn, if_pos g]
  · rfl
theorem upN_id {f : MemD → MemD} {l : List MemD} (h : ∀ m ∈ l, f m = m) : ∀ k, k ≤ l.length → upN f l k = l
  | 0, _ => rfl
  | k + 1, hk => by rw [upN_same f l (by omega) (h _ (gr_mem (by omega))), upN_id h k (by omega)]
theorem clN_id {p : ParD} {ms : List MemD} {ps : List Int} (h : ∀ m ∈ ms, clampM p m = m ∧ m.bal ≤ p.cap ∧ 0 ≤ m.owner ∧ m.owner < ps.length) : ∀ k, k ≤ ms.length → clN p (ms, ps) k = (ms, ps)
  | 0, _ => rfl
  | k + 1, hk => by
    rw [clN, clN_id h k (by omega), clStep]
    have hm := h _ (gr_mem (z := zeroM) (k := k) (l := ms) (by omega))
    simp only
    rw [hm.1, show min (gr zeroM ms k).bal p.cap = (gr zeroM ms k).bal by omega]
    congr 1
    · rw [gr_lt (by omega), List.set_getElem_self]
    · have hlt : (gr zeroM ms k).owner.toNat < ps.length := by omega
      have e : at0 ps (gr zeroM ms k).owner.toNat + ((gr zeroM ms k).bal - (gr zeroM ms k).bal) = ps[(gr zeroM ms k).owner.toNat] := by rw [at0_lt hlt]; omega
      rw [e, List.set_getElem_self]
theorem none_out {q : ParD} {cs : List MemD} (h : ∀ m ∈ cs, ¬ ejP q m) (t : Int) (ds : List DueD) (xs : List Int) : ∀ k, k ≤ cs.length → duN q cs t ds k = ds ∧ exN q cs xs k = xs ∧ ouN q cs k = []
  | 0, _ => ⟨rfl, rfl, rfl⟩
  | k + 1, hk => by
    obtain ⟨h1, h2, h3⟩ := none_out h t ds xs k (by omega)
    have hn := h _ (gr_mem (z := zeroM) (k := k) (l := cs) (by omega))
    rw [duN, exN, ouN, if_neg hn, if_neg hn, if_neg hn]
    exact ⟨h1, h2, h3⟩
/-- to adopt the parameters that there are changes nothing -/
theorem ad_same {s : StD} (hf : fitsS s = true) : adS s s.par = s ∧ adOut s s.par = [] := by
  have hm := fits_mem hf
  have hr : parR s.par = true := by simp only [fitsS, Bool.and_eq_true] at hf; exact hf.1.1.1.1.1.1.1.1
  have hX : adX s s.par = (s.members, s.purses) := clN_id (fun m hx => ⟨clamp_self hr (hm m hx).1, shape_cap hr (mfits_facts (hm m hx).1).2.2.2, (hm m hx).2⟩) _ (Nat.le_refl _)
  have hN := none_out (q := s.par) (cs := s.members) (fun m hx => eject_no (hm m hx).1) (s.ep + s.par.wait) s.dues s.exit s.members.length (Nat.le_refl _)
  have h1 : upN (ejF s.par) s.members s.members.length = s.members := upN_id (fun m hx => by rw [ejF, if_neg (eject_no (hm m hx).1)]) _ (Nat.le_refl _)
  have h2 : upN (setF s.par) s.members s.members.length = s.members := upN_id (fun m hx => set_self (hm m hx).1) _ (Nat.le_refl _)
  constructor
  · simp only [adS, adMem, adDues, adExit, hX, h1, h2, hN.1, hN.2.1]
  · simp only [adOut, hX, hN.2.2]
/-! what is adopted fits -/
theorem trim_ok {p : ParD} (hs : 0 ≤ p.streak) (m : MemD) : stdL (trimM p (trimM p m)) = stdL (trimM p m) := by
  simp only [stdL, trimM, List.cons.injEq, and_true, true_and]
  omega
theorem streak_pos {p : ParD} (hr : parR p = true) : 0 ≤ p.streak := by
  simp only [parR, othersB, List.all_cons, List.all_nil, Bool.and_eq_true, id] at hr
  have h1 : wi p.streak 0 64 = true := by simp_all
  exact (wi_iff.1 h1).1
theorem whole_facts {p : ParD} (hr : parR p = true) {b : Int} (hb : p.floor < b) : gfitsP p (wholeP p b) b = true := by
  have hs : stakesB p = true := by simp only [parR, Bool.and_eq_true] at hr; exact hr.1.1.1
  have f := stakesB_facts hs
  have h1 := Int.emod_nonneg b (show p.inc ≠ 0 by omega)
  have h2 := Int.emod_lt_of_pos b (show 0 < p.inc by omega)
  have h3 : (b - b % p.inc) % p.inc = 0 := by rw [Int.sub_emod, Int.emod_emod_of_dvd _ (Int.dvd_refl _)]; simp
  have h4 : p.inc ≤ b - b % p.inc := by
    have e := Int.emod_def b p.inc
    have e2 : b - b % p.inc = p.inc * (b / p.inc) := by omega
    have : 1 ≤ b / p.inc := (Int.le_ediv_iff_mul_le (by omega)).2 (by omega)
    rw [e2]
    have := Int.mul_le_mul_of_nonneg_left this (show 0 ≤ p.inc by omega)
    omega
  have hn : nextP p (wholeP p b) b = wholeP p b := by unfold nextP; split <;> rfl
  have hw : wholeP p b % p.inc = 0 := by
    unfold wholeP
    rcases Int.le_total (b - b % p.inc) p.maxEff with c | c
    · rw [Int.min_eq_left c]; exact h3
    · rw [Int.min_eq_right c]; exact f.2.2.2.2.2.2.2.2.2.2.2
  simp only [gfitsP, Bool.and_eq_true, decide_eq_true_eq]
  refine ⟨⟨⟨?_, ?_⟩, hw⟩, hn⟩ <;> unfold wholeP <;> omega
theorem settle_fits {p : ParD} (hr : parR p = true) {m : MemD} (hb : p.floor < m.bal) : gfitsP p (settleM p m).eff m.bal = true := by
  unfold settleM
  simp only
  split
  · rename_i h; exact h
  · exact whole_facts hr hb
/-- a member, once adopted -/
def doneF (q : ParD) (m : MemD) : MemD := setF q (ejF q (clampM q m))
theorem done_fits {p q : ParD} (hp : parR p = true) (hq : parR q = true) {m : MemD} (hm : mfitsB p m = true) : mfitsB q (doneF q m) = true := by
  obtain ⟨ho, h2, h3, h4⟩ := mfits_facts hm
  have hs : stakesB q = true := by simp only [parR, Bool.and_eq_true] at hq; exact hq.1.1.1
  have f := stakesB_facts hs
  have hst := streak_pos hq
  have base : ∀ m', m'.owner = m.owner → m'.score = min m.score q.scoreCap → (m'.streak = min (max m.streak 0) q.streak ∨ m'.streak = 0) → shapeB q m' = true → mfitsB q m' = true := fun m' e1 e2 e3 e4 => by
    simp only [mfitsB, Bool.and_eq_true, decide_eq_true_eq, e4, and_true, stdL, trimM, List.cons.injEq, true_and]
    omega
  have hc : clampM q m = ⟨min m.bal q.cap, m.eff, min m.score q.scoreCap, min (max m.streak 0) q.streak, m.owner, m.status⟩ := rfl
  unfold doneF
  by_cases c1 : m.status = 2 ∨ m.status = 3
  · by_cases c2 : min m.bal q.cap ≤ q.floor
    · have e1 : ejF q (clampM q m) = endM (clampM q m) := by rw [ejF, if_pos ⟨by rw [hc]; exact c1, by rw [hc]; exact c2⟩]
      have e2 : setF q (endM (clampM q m)) = endM (clampM q m) := by rw [setF, if_neg (by simp [cntM, endM])]
      rw [e1, e2]
      exact base _ rfl rfl (.inr rfl) (by simp [shapeB, endM])
    · have e1 : ejF q (clampM q m) = clampM q m := by rw [ejF, if_neg (fun x => c2 (by have := x.2; rw [hc] at this; exact this))]
      have e2 : setF q (clampM q m) = settleM q (clampM q m) := by rw [setF, if_pos (by rw [hc]; exact c1)]
      rw [e1, e2]
      refine base _ rfl rfl (.inl rfl) ?_
      have hg := settle_fits hq (m := clampM q m) (by rw [hc]; show q.floor < min m.bal q.cap; omega)
      rw [shapeB, if_pos (by show m.status = 2 ∨ m.status = 3; exact c1)]
      have hb : (settleM q (clampM q m)).bal = min m.bal q.cap := rfl
      simp only [Bool.and_eq_true, decide_eq_true_eq]
      refine ⟨⟨?_, ?_⟩, hg⟩ <;> rw [hb] <;> omega
  · have e1 : ejF q (clampM q m) = clampM q m := by rw [ejF, if_neg (fun x => c1 x.1)]
    have e2 : setF q (clampM q m) = clampM q m := by rw [setF, if_neg (show ¬ cntM (clampM q m) from fun x => c1 x)]
    rw [e1, e2]
    refine base _ rfl rfl (.inl rfl) ?_
    rw [shapeB, if_neg c1] at h4
    rw [hc, shapeB, if_neg c1]
    simp only at h4 ⊢
    split at h4
    · rename_i c3
      rw [if_pos c3]
      simp only [Bool.and_eq_true, decide_eq_true_eq] at h4 ⊢
      omega
    · rename_i c3
      rw [if_neg c3]
      split at h4
      · rename_i c4
        rw [if_pos c4]
        simp only [Bool.and_eq_true, decide_eq_true_eq] at h4 ⊢
        omega
      · cases h4
end Go.X

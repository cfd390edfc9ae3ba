/- Lemmas and contracts for a statement about the given program. Conditions: as each says. -/
import Derived.Test.YtkmojeioedjfkaaGreatQ27
import Derived.Test.YtkmojeioedjfkaaGreatQ36
set_option linter.unusedVariables false
set_option linter.unusedSimpArgs false
set_option maxHeartbeats 12800000
set_option maxRecDepth 20000
namespace Go.X
open Go.RowKit Go.Proofs Go.Bl
theorem sumK_sumR (zs : List Int) : ∀ k, k ≤ zs.length → sumK zs k = (zs.take k).sum
 | 0, _ => by simp [sumK]
 | k + 1, hk => by
  rw [sumK, sumK_sumR zs k (by omega), List.take_succ_eq_append_getElem hk, List.sum_append, at0_lt hk]
  simp
theorem tot_sumR (zs : List Int) : tot zs = zs.sum := by
 rw [tot, sumK_sumR zs _ (Nat.le_refl _), List.take_length]
theorem tot_snocR (zs : List Int) (a : Int) : tot (zs ++ [a]) = tot zs + a := by
 rw [tot_sumR, tot_sumR, List.sum_append]; simp
theorem at0_neR (xs : List Int) {i j : Nat} (v : Int) (hij : j ≠ i) : at0 (xs.set i v) j = at0 xs j := by
 by_cases hi : i < xs.length
 ·rw [at0_set _ _ _ _ hi, if_neg (fun e => hij e)]
 ·rw [List.set_eq_of_length_le (by omega)]
theorem sumK_set_ltR {xs : List Int} {i : Nat} {v : Int} : ∀ k, k ≤ i → sumK (xs.set i v) k = sumK xs k
 | 0, _ => rfl
 | k + 1, hk => by rw [sumK, sumK, sumK_set_ltR k (by omega), at0_neR xs v (show k ≠ i by omega)]
theorem sumK_set_geR {xs : List Int} {i : Nat} {v : Int} (hi : i < xs.length) : ∀ k, i < k → sumK (xs.set i v) k = sumK xs k + (v - at0 xs i)
 | k + 1, hk => by
  rw [sumK, sumK]
  by_cases c : k = i
  ·subst c
   rw [sumK_set_ltR k (Nat.le_refl _), at0_set _ _ _ _ hi, if_pos rfl]
   omega
  ·rw [sumK_set_geR hi k (by omega), at0_neR xs v (by omega : k ≠ i)]
   omega
theorem tot_setR {xs : List Int} {i : Nat} {v : Int} (hi : i < xs.length) : tot (xs.set i v) = tot xs + (v - at0 xs i) := by
 rw [tot, List.length_set, sumK_set_geR hi _ hi]; rfl
theorem right_facts {d : DeedD} (hr : rightD d = true) : (1 ≤ d.kind ∧ d.kind ≤ 7) ∧ (0 ≤ d.acct ∧ d.acct ≤ 63) ∧ (0 ≤ d.to ∧ d.to ≤ 63) ∧ (0 ≤ d.mem ∧ d.mem ≤ 127) ∧ (0 ≤ d.mot ∧ d.mot ≤ 31) ∧ d.amt ≤ 4611686018427387904 ∧ (0 ≤ d.ep ∧ d.ep ≤ 1073741824) ∧ d.bits.length ≤ 32 := by
 simp only [rightD, Bool.and_eq_true, wi_iff, decide_eq_true_eq] at hr
 omega
theorem right_same {d : DeedD} (hr : rightD d = true) : sameD d (bareD d) = true := by
 simp only [rightD, Bool.and_eq_true] at hr
 exact hr.1.1.1.2
theorem right_move {d : DeedD} (hr : rightD d = true) (h6 : d.kind = 6) : (1 ≤ d.what ∧ d.what ≤ 4) ∧ (d.what = 1 → parR d.par = true) := by
 simp only [rightD, Bool.and_eq_true] at hr
 have h := hr.2
 rw [decide_eq_false (by omega : ¬ d.kind ≠ 6), Bool.false_or, Bool.and_eq_true, wi_iff, Bool.or_eq_true, decide_eq_true_eq] at h
 exact ⟨h.1, fun e => h.2.resolve_left (fun c => c e)⟩
theorem same_parts {a b : DeedD} (hs : sameD a b = true) : a.mem = b.mem ∧ a.to = b.to ∧ a.amt = b.amt ∧ a.what = b.what ∧ a.par = b.par := by
 simp only [sameD, Bool.and_eq_true, decide_eq_true_eq] at hs
 exact ⟨hs.2.2.1, hs.2.2.2.1, hs.2.2.2.2.1, hs.2.2.2.2.2.2.1, hs.2.2.2.2.2.2.2.1⟩
theorem right_what {d : DeedD} (hr : rightD d = true) (h2 : d.what = 2) : d.kind = 6 := by
 by_cases c : d.kind = 6
 ·exact c
 exfalso
 have h := (same_parts (right_same hr)).2.2.2.1
 have e : (bareD d).what = 0 := by
  unfold bareD
  repeat' split
  all_goals first | rfl | contradiction
 omega
theorem right_mem {d : DeedD} (hr : rightD d = true) (h2 : d.kind = 2) : d.mem = 0 := by
 have h := (same_parts (right_same hr)).1
 have e : (bareD d).mem = 0 := by
  unfold bareD
  rw [if_neg (by omega), if_pos h2]
  rfl
 omega
theorem right_par {d : DeedD} (hr : rightD d = true) (h6 : d.kind = 6) (h1 : d.what ≠ 1) : d.par = zeroP := by
 have h := (same_parts (right_same hr)).2.2.2.2
 have e : (bareD d).par = zeroP := by
  unfold bareD
  rw [if_neg (by omega), if_neg (by omega), if_neg (by omega), if_neg (by omega), if_neg (by omega), if_neg (by omega), if_pos h6, if_neg h1]
  split <;> rfl
 rw [h, e]
theorem right_to {d : DeedD} (hr : rightD d = true) (h6 : d.kind = 6) (h1 : d.what ≠ 2) : d.to = 0 := by
 have h := (same_parts (right_same hr)).2.1
 have e : (bareD d).to = 0 := by
  unfold bareD
  rw [if_neg (by omega), if_neg (by omega), if_neg (by omega), if_neg (by omega), if_neg (by omega), if_neg (by omega), if_pos h6, if_neg h1]
  split <;> rfl
 omega
theorem drawP_ok {xs : List Int} {i a : Int} (h0 : (drawP xs i a).2 = 0) (hx : ∀ z ∈ xs, z ≤ 4611686018427387904) (ha : 0 ≤ a) : inP xs i = true ∧ (drawP xs i a).1.length = xs.length ∧ (∀ z ∈ (drawP xs i a).1, z ≤ 4611686018427387904) ∧ tot (drawP xs i a).1 = tot xs - a := by
 have c1 : inP xs i = true := by
  cases c : inP xs i with
  | true => rfl
  | false => rw [drawP, c] at h0; exact absurd h0 (by simp)
 have c2 : a ≤ at0 xs i.toNat := by
  by_cases c : a ≤ at0 xs i.toNat
  ·exact c
  ·rw [drawP, c1, if_pos rfl, if_neg c] at h0; exact absurd h0 (by simp)
 have e : drawP xs i a = (xs.set i.toNat (at0 xs i.toNat - a), 0) := by rw [drawP, c1, if_pos rfl, if_pos c2]
 obtain ⟨m, rfl, hm⟩ := inP_nat c1
 rw [e]
 simp only [Int.toNat_natCast] at c2 ⊢
 refine ⟨c1, List.length_set, fun z hz => ?_, ?_⟩
 ·rcases List.mem_or_eq_of_mem_set hz with hz | rfl
  ·exact hx z hz
  ·have := hx _ (List.getElem_mem hm)
   rw [at0_lt hm] at this
   omega
 ·rw [tot_setR hm]; omega
theorem payP_ok {xs : List Int} {i a : Int} (h0 : (payP xs i a).2 = 0) (hx : ∀ z ∈ xs, z ≤ 4611686018427387904) : inP xs i = true ∧ (payP xs i a).1.length = xs.length ∧ (∀ z ∈ (payP xs i a).1, z ≤ 4611686018427387904) ∧ tot (payP xs i a).1 = tot xs + a := by
 have c1 : inP xs i = true := by
  cases c : inP xs i with
  | true => rfl
  | false => rw [payP, c] at h0; exact absurd h0 (by simp)
 have c2 : at0 xs i.toNat + a ≤ 4611686018427387904 := by
  by_cases c : at0 xs i.toNat + a ≤ 4611686018427387904
  ·exact c
  ·rw [payP, c1, if_pos rfl, if_neg c] at h0; exact absurd h0 (by simp)
 have e : payP xs i a = (xs.set i.toNat (at0 xs i.toNat + a), 0) := by rw [payP, c1, if_pos rfl, if_pos c2]
 obtain ⟨m, rfl, hm⟩ := inP_nat c1
 rw [e]
 simp only [Int.toNat_natCast] at c2 ⊢
 refine ⟨c1, List.length_set, fun z hz => ?_, ?_⟩
 ·rcases List.mem_or_eq_of_mem_set hz with hz | rfl
  ·exact hx z hz
  ·exact c2
 ·rw [tot_setR hm]; omega
theorem moveP_ok {xs : List Int} {f t a : Int} (h0 : (moveP xs f t a).2 = 0) (hx : ∀ z ∈ xs, z ≤ 4611686018427387904) (ha : 0 ≤ a) : (moveP xs f t a).1.length = xs.length ∧ (∀ z ∈ (moveP xs f t a).1, z ≤ 4611686018427387904) ∧ tot (moveP xs f t a).1 = tot xs := by
 cases c : inP xs f && inP xs t with
 | false => rw [moveP, c] at h0; exact absurd h0 (by simp)
 | true =>
 by_cases c2 : (drawP xs f a).2 = 0
 ·have e : moveP xs f t a = payP (drawP xs f a).1 t a := by rw [moveP, c, if_pos rfl, if_pos c2]
  rw [e] at h0 ⊢
  obtain ⟨_, a1, a2, a3⟩ := drawP_ok c2 hx ha
  obtain ⟨_, b1, b2, b3⟩ := payP_ok h0 a2
  exact ⟨by omega, b2, by omega⟩
 ·have e : moveP xs f t a = ([], (drawP xs f a).2) := by rw [moveP, c, if_pos rfl, if_neg c2]
  rw [e] at h0
  exact absurd h0 c2
theorem fitsS_iff {s : StD} : fitsS s = true ↔ parR s.par = true ∧ wi s.ep 0 1073741824 = true ∧ wi s.calm 0 1073741824 = true ∧ pursesB s = true ∧ membersB s = true ∧ poolsB s = true ∧ motionsB s = true ∧ marksB s = true ∧ holdsB s = true := by
 simp only [fitsS, Bool.and_eq_true, and_assoc]
theorem purses_iff {s : StD} : pursesB s = true ↔ (1 ≤ s.purses.length ∧ s.purses.length ≤ 64) ∧ ∀ z ∈ s.purses, z ≤ 4611686018427387904 := by
 simp only [pursesB, Bool.and_eq_true, wi_iff, List.all_eq_true, decide_eq_true_eq]
 exact and_congr (by omega) Iff.rfl
theorem acct_iff {s : StD} {i : Int} : acctB s i = true ↔ 0 ≤ i ∧ i < s.purses.length := by
 rw [acctB, wi_iff]; omega
theorem inP_iff {xs : List Int} {i : Int} : inP xs i = true ↔ 0 ≤ i ∧ i < xs.length := by
 simp only [inP, Bool.and_eq_true, decide_eq_true_eq]
theorem fits_upd {s : StD} {xs : List Int} {pl : List DepD} {ms : List MotD} {tr : Int} (hf : fitsS s = true) (hl : xs.length = s.purses.length) (hz : ∀ z ∈ xs, z ≤ 4611686018427387904) (hp1 : pl.length ≤ 256) (hp2 : ∀ d ∈ pl, dep1B s d = true) (hm1 : ms.length ≤ 32) (hm2 : ∀ m ∈ ms, (motFits m && acctB s m.acct && acctB s m.to) = true)
  (ht : tot xs + tot (pl.map DepD.amt) + tr = tot s.purses + tot (s.pool.map DepD.amt) + s.treas) : fitsS { s with purses := xs, pool := pl, motions := ms, treas := tr } = true := by
 obtain ⟨f1, f2, f3, f4, f5, f6, f7, f8, f9⟩ := fitsS_iff.1 hf
 have ea : ∀ i, acctB { s with purses := xs, pool := pl, motions := ms, treas := tr } i = acctB s i := fun i => by simp only [acctB, hl]
 refine fitsS_iff.2 ⟨f1, f2, f3, purses_iff.2 ⟨?_, hz⟩, ?_, ?_, ?_, f8, ?_⟩
 ·simp only [hl]; exact (purses_iff.1 f4).1
 ·simp only [membersB, ea]
  exact f5
 ·have ed : ∀ d, dep1B { s with purses := xs, pool := pl, motions := ms, treas := tr } d = dep1B s d := fun d => by simp only [dep1B, ea]
  have ed2 : duesB { s with purses := xs, pool := pl, motions := ms, treas := tr } = duesB s := by
   unfold duesB
   refine congrArg (fun p => List.all _ p) (funext fun k => ?_)
   simp only [dueB, due1B, ea]
  simp only [poolsB, Bool.and_eq_true, decide_eq_true_eq, List.all_eq_true] at f6 ⊢
  exact ⟨⟨hp1, fun d hd => by rw [ed]; exact hp2 d hd⟩, by rw [ed2]; exact f6.2⟩
 ·simp only [motionsB, Bool.and_eq_true, decide_eq_true_eq, List.all_eq_true, ea]
  refine ⟨hm1, fun m hm => ?_⟩
  have := hm2 m hm
  simp only [Bool.and_eq_true] at this
  exact this
 ·simp only [holdsB, Bool.and_eq_true, decide_eq_true_eq] at f9 ⊢
  refine ⟨f9.1, ?_⟩
  have h9 := f9.2
  simp only [sAll, sStk, sPur, sPool, sDue] at h9 ⊢
  omega
theorem pool_all {s : StD} (hf : fitsS s = true) : s.pool.length ≤ 256 ∧ ∀ d ∈ s.pool, dep1B s d = true := by
 have f6 := (fitsS_iff.1 hf).2.2.2.2.2.1
 simp only [poolsB, Bool.and_eq_true, decide_eq_true_eq, List.all_eq_true] at f6
 exact f6.1
theorem mot_all {s : StD} (hf : fitsS s = true) : s.motions.length ≤ 32 ∧ ∀ m ∈ s.motions, (motFits m && acctB s m.acct && acctB s m.to) = true := by
 have f7 := (fitsS_iff.1 hf).2.2.2.2.2.2.1
 simp only [motionsB, Bool.and_eq_true, decide_eq_true_eq, List.all_eq_true] at f7 ⊢
 exact f7
theorem send_fits {s : StD} {d : DeedD} (hf : fitsS s = true) (ha : 0 ≤ d.amt) (h0 : (sendP s d).2 = 0) : fitsS (sendP s d).1 = true := by
 have f4 := purses_iff.1 (fitsS_iff.1 hf).2.2.2.1
 unfold sendP at h0 ⊢
 by_cases c : (moveP s.purses d.acct d.to d.amt).2 = 0
 ·rw [if_pos c]
  obtain ⟨a1, a2, a3⟩ := moveP_ok c f4.2 ha
  exact fits_upd hf a1 a2 (pool_all hf).1 (pool_all hf).2 (mot_all hf).1 (mot_all hf).2 (by rw [a3])
 ·rw [if_neg c] at h0
  exact absurd h0 c
theorem stake_fits {s : StD} {d : DeedD} (hf : fitsS s = true) (ha : 0 ≤ d.amt) (hk : d.kind = 2 ∨ d.kind = 3 ∧ 0 ≤ d.mem ∧ d.mem < s.members.length) (h0 : (stakeP s d).2 = 0) : fitsS (stakeP s d).1 = true := by
 have f4 := purses_iff.1 (fitsS_iff.1 hf).2.2.2.1
 unfold stakeP at h0 ⊢
 split at h0
 ·exact absurd h0 (by simp)
 rename_i c1
 rw [if_neg c1]
 split at h0
 ·rename_i c2
  rw [if_pos c2]
  split at h0
  ·rename_i c3
   rw [if_pos c3]
   obtain ⟨a0, a1, a2, a3⟩ := drawP_ok c2 f4.2 ha
   have e : addP s.pool ⟨d.acct, d.mem, d.amt, decide (d.kind = 2)⟩ = (s.pool ++ [⟨d.acct, d.mem, d.amt, decide (d.kind = 2)⟩], 0) ∧ depB ⟨d.acct, d.mem, d.amt, decide (d.kind = 2)⟩ = true ∧ s.pool.length < 256 := by
    unfold addP at c3 ⊢
    split at c3
    ·rename_i q1
     split at c3
     ·rename_i q2
      exact ⟨by rw [if_pos q1, if_pos q2], q1, q2⟩
     ·exact absurd c3 (by simp)
    ·exact absurd c3 (by simp)
   obtain ⟨e1, e2, e3⟩ := e
   rw [e1]
   obtain ⟨i1, i2⟩ := inP_iff.1 a0
   refine fits_upd hf a1 a2 (by simp; omega) (fun x hx => ?_) (mot_all hf).1 (mot_all hf).2 ?_
   ·rcases List.mem_append.1 hx with hx | hx
    ·exact (pool_all hf).2 x hx
    ·rw [List.mem_singleton.1 hx]
     simp only [dep1B, Bool.and_eq_true]
     refine ⟨⟨e2, acct_iff.2 ⟨i1, i2⟩⟩, ?_⟩
     rcases hk with hk | ⟨hk, m1, m2⟩
     ·simp [hk]
     ·rw [Bool.or_eq_true]; exact Or.inr (wi_iff.2 ⟨m1, by omega⟩)
   ·simp only [List.map_append, List.map_cons, List.map_nil, tot_snocR, a3]
    omega
  ·rename_i c3
   exact absurd h0 c3
 ·rename_i c2
  exact absurd h0 c2
theorem gr_setR {l : List MemD} {j : Nat} (hj : j < l.length) (m : MemD) (k : Nat) : gr zeroM (l.set j m) k = if k = j then m else gr zeroM l k := by
 simp only [gr, List.getD_eq_getElem?_getD, List.getElem?_set]
 by_cases e : k = j
 ·subst e; simp [hj]
 ·rw [if_neg (fun c => e c.symm), if_neg e]
theorem cntS_setR {l : List MemD} {j : Nat} (hj : j < l.length) (m : MemD) (st : Int) : ∀ k, cntS (l.set j m) st k + (if j < k ∧ (gr zeroM l j).status = st then 1 else 0) = cntS l st k + (if j < k ∧ m.status = st then 1 else 0)
 | 0 => by simp [cntS]
 | k + 1 => by
  have ih := cntS_setR hj m st k
  simp only [cntS, gr_setR hj]
  by_cases e : k = j
  ·subst e
   simp only [Nat.lt_irrefl, false_and, if_false, Nat.lt_succ_self, true_and, if_true] at ih ⊢
   omega
  ·rw [if_neg e]
   by_cases c : j < k
   ·have c' : j < k + 1 := by omega
    simp only [c, c', true_and] at ih ⊢
    omega
   ·have c' : ¬ j < k + 1 := by omega
    simp only [c, c', false_and, if_false] at ih ⊢
    omega
theorem hasB_memR {s : StD} {l : List Int} {st : Int} (h : hasB s l st = true) {j : Nat} (hj : j < s.members.length) (e : (gr zeroM s.members j).status = st) : (j : Int) ∈ l := by
 rw [hasB, List.all_eq_true] at h
 have := h j (List.mem_range.2 hj)
 simpa [e] using this
theorem leave_fits {s : StD} {d : DeedD} (hf : fitsS s = true) (hm0 : 0 ≤ d.mem) (hml : d.mem < s.members.length) (h0 : (leaveP s d).2 = 0) : fitsS (leaveP s d).1 = true := by
 obtain ⟨f1, f2, f3, f4, f5, f6, f7, f8, f9⟩ := fitsS_iff.1 hf
 unfold leaveP at h0 ⊢
 by_cases c : (gr zeroM s.members d.mem.toNat).status = 2
 ·rw [if_pos c]
  have hj : d.mem.toNat < s.members.length := by omega
  have ej : (d.mem.toNat : Int) = d.mem := by omega
  generalize d.mem.toNat = j at c hj ej
  have hmem : gr zeroM s.members j ∈ s.members := by rw [gr_lt hj]; exact List.getElem_mem hj
  refine fitsS_iff.2 ⟨f1, f2, f3, f4, ?_, ?_, f7, ?_, ?_⟩
  ·simp only [membersB, Bool.and_eq_true, decide_eq_true_eq, List.all_eq_true, rowB] at f5 ⊢
   obtain ⟨⟨⟨g1, g2⟩, g3, g4⟩, g5, g6⟩ := f5
   refine ⟨⟨⟨by rw [List.length_set]; exact g1, fun x hx => ?_⟩, ?_, ?_⟩, ?_, ?_⟩
   ·rcases List.mem_or_eq_of_mem_set hx with hx | rfl
    ·exact g2 x hx
    ·have := g2 _ hmem
     refine ⟨?_, this.2⟩
     have h1 := this.1
     simp only [mfitsB, shapeB, trimM, stdL, c] at h1 ⊢
     exact h1
   ·refine hasB_true fun k hk e => ?_
    simp only [List.length_set] at hk
    simp only [gr_setR hj] at e
    split at e
    ·exact absurd e (by simp)
    ·exact hasB_memR g3 hk e
   ·have := cntS_setR hj { gr zeroM s.members j with status := 3 } 1 s.members.length
    simp only [hj, c, true_and, List.length_set] at this ⊢
    simp only [(by decide : ¬ (2 : Int) = 1), (by decide : ¬ (3 : Int) = 1), if_false] at this
    omega
   ·refine hasB_true fun k hk e => ?_
    simp only [List.length_set] at hk
    simp only [gr_setR hj] at e
    split at e
    ·rename_i ek
     subst ek
     rw [ej]; simp
    ·exact List.mem_append_left _ (hasB_memR g5 hk e)
   ·have := cntS_setR hj { gr zeroM s.members j with status := 3 } 3 s.members.length
    simp only [hj, c, true_and, List.length_set, List.length_append, List.length_cons, List.length_nil] at this ⊢
    simp only [(by decide : ¬ (2 : Int) = 3), if_false, if_true] at this
    omega
  ·have ed : ∀ x, dep1B { s with members := s.members.set j { gr zeroM s.members j with status := 3 }, exit := s.exit ++ [d.mem] } x = dep1B s x := fun x => by simp only [dep1B, acctB, List.length_set]
   simp only [poolsB, Bool.and_eq_true, decide_eq_true_eq, List.all_eq_true] at f6 ⊢
   exact ⟨⟨f6.1.1, fun x hx => by rw [ed]; exact f6.1.2 x hx⟩, f6.2⟩
  ·simp only [marksB, List.length_set] at f8 ⊢
   exact f8
  ·have eb : (s.members.set j { gr zeroM s.members j with status := 3 }).map MemD.bal = s.members.map MemD.bal := by
    apply List.ext_getElem (by simp)
    intro i h1 h2
    simp only [List.getElem_map, List.getElem_set]
    split
    ·rename_i e
     subst e
     rw [← gr_lt (z := zeroM) hj]
    ·rfl
   simp only [holdsB, Bool.and_eq_true, decide_eq_true_eq, sAll, sStk, sPur, sPool, sDue, eb] at f9 ⊢
   exact ⟨f9.1, of_decide_eq_true f9.2⟩
 ·rw [if_neg c] at h0
  exact absurd h0 (by simp)
theorem chk128 (bs : List Int) : chkB bs 128 = true ↔ bs.length = 16 := by
 simp only [chkB, Bool.and_eq_true, decide_eq_true_eq, show sizeB 128 = 16 by decide]
 have e : (!(decide ((128 : Int) % 8 > 0) && decide (at0 bs (bs.length - 1) / 2 ^ ((128 : Int) % 8).toNat ≠ 0))) = true := by
  rw [decide_eq_false (by decide : ¬ (128 : Int) % 8 > 0)]; rfl
 simp only [e, and_true]
 omega
theorem beyondR {bs : List Int} {n : Int} (hb : ∀ i, 0 ≤ at0 bs i ∧ at0 bs i ≤ 255) (hc : chkB bs n = true) {i : Nat} (hi : n ≤ i) : getB bs i = false := by
 rw [chk_right _ _ hb, rightB, Bool.and_eq_true, List.all_eq_true] at hc
 by_cases c : i < 8 * bs.length
 ·have := hc.2 i (List.mem_range.2 c)
  rw [decide_eq_false (by omega), Bool.false_or, Bool.not_eq_true'] at this
  exact this
 ·rw [getB, decide_eq_false (by omega), Bool.false_and]
theorem mark_fits {s : StD} {d : DeedD} (hf : fitsS s = true) (hk : ∀ i, 0 ≤ at0 s.marks i ∧ at0 s.marks i ≤ 255) (hb : ∀ i, 0 ≤ at0 d.bits i ∧ at0 d.bits i ≤ 255) (h0 : (markSP s d).2 = 0) : fitsS (markSP s d).1 = true := by
 obtain ⟨f1, f2, f3, f4, f5, f6, f7, f8, f9⟩ := fitsS_iff.1 hf
 unfold markSP at h0 ⊢
 split at h0
 ·rename_i c1
  rw [if_pos c1]
  split at h0
  ·rename_i c2
   rw [if_pos c2]
   have c3 : (chkB s.marks 128 && (decide (0 ≤ (s.members.length : Int)) && decide ((s.members.length : Int) ≤ 128)) && chkB d.bits s.members.length) = true := by
    cases c : (chkB s.marks 128 && (decide (0 ≤ (s.members.length : Int)) && decide ((s.members.length : Int) ≤ 128)) && chkB d.bits s.members.length) with
    | true => rfl
    | false => rw [markP, c] at c2; exact absurd c2 (by simp)
   rw [markP, c3, if_pos rfl]
   simp only [Bool.and_eq_true, decide_eq_true_eq] at c3
   obtain ⟨⟨k1, k2, k3⟩, k4⟩ := c3
   have lx := (chk128 _).1 k1
   have ly : d.bits.length ≤ 16 := by
    have k5 := k4
    rw [chkB, Bool.and_eq_true, decide_eq_true_eq] at k5
    have h1 := k5.1.2.2
    have h2 := sizeB_le k3
    omega
   refine fitsS_iff.2 ⟨f1, f2, f3, f4, f5, f6, f7, ?_, f9⟩
   simp only [marksB, rollB, Bool.and_eq_true, decide_eq_true_eq, List.all_eq_true, Bool.or_eq_true, Bool.not_eq_true'] at f8 ⊢
   refine ⟨⟨⟨f8.1.1.1, (chk128 _).2 (by rw [orK_len]; exact lx)⟩, f8.1.2⟩, fun i hi => ?_⟩
   by_cases c : i < s.members.length
   ·exact Or.inl c
   ·refine Or.inr ?_
    rw [getB_or hk hb (by omega), (f8.2 i hi).resolve_left c, Bool.false_or]
    exact beyondR hb k4 (by omega)
  ·rename_i c2
   exact absurd h0 c2
 ·exact absurd h0 (by simp)
theorem par_poll {p : ParD} (hr : parR p = true) : 1 ≤ p.poll ∧ p.poll ≤ 1000 ∧ p.bond ≤ 1099511627776 := by
 simp only [parR, Bool.and_eq_true] at hr
 have h := hr.1.2
 simp only [othersB, List.all_cons, List.all_nil, id, Bool.and_eq_true, wi_iff, decide_eq_true_eq, and_true] at h
 omega
theorem mot_fits {s : StD} {d : DeedD} (hf : fitsS s = true) (hr : rightD d = true) (h6 : d.kind = 6) (hac : accP s d = 0) (hb0 : 0 ≤ s.par.bond) (h0 : (motP s d).2 = 0) : fitsS (motP s d).1 = true := by
 obtain ⟨f1, f2, f3, f4, f5, f6, f7, f8, f9⟩ := fitsS_iff.1 hf
 have p4 := purses_iff.1 f4
 obtain ⟨r1, r2, r3, r4, r5, r6, r7, r8⟩ := right_facts hr
 obtain ⟨w1, w2⟩ := right_move hr h6
 unfold motP at h0 ⊢
 split at h0
 ·rename_i c1
  rw [if_pos c1]
  split at h0
  ·rename_i c2
   rw [if_pos c2]
   obtain ⟨a0, a1, a2, a3⟩ := drawP_ok c1 p4.2 hb0
   obtain ⟨i1, i2⟩ := inP_iff.1 a0
   have pp := par_poll f1
   have ep := wi_iff.1 f2
   have hto : acctB s d.to = true := by
    by_cases c : d.what = 2
    ·unfold accP at hac
     rw [if_neg (by omega)] at hac
     split at hac
     ·rename_i q
      rw [Bool.and_eq_true, decide_eq_true c, Bool.or_true, Bool.not_true, Bool.false_or] at q
      exact acct_iff.2 (inP_iff.1 q.2)
     ·exact absurd hac (by simp)
    ·rw [right_to hr h6 c]
     exact acct_iff.2 ⟨by omega, by omega⟩
   have hm : (motFits (openM s.par d s.ep) && acctB s (openM s.par d s.ep).acct && acctB s (openM s.par d s.ep).to) = true := by
    rw [Bool.and_eq_true, Bool.and_eq_true]
    refine ⟨⟨?_, acct_iff.2 ⟨i1, i2⟩⟩, hto⟩
    simp only [motFits, motHead, motMid, openM, Bool.and_eq_true, wi_iff, decide_eq_true_eq]
    have e16 : chkB (List.replicate 16 0) 128 = true := by decide
    refine ⟨⟨⟨⟨⟨⟨⟨r2, r3⟩, w1⟩, by omega⟩, ⟨by omega, by omega⟩, decide_eq_true r6⟩, e16⟩, e16⟩, ?_⟩
    show (if d.what = 1 then parR d.par else decide (d.par = zeroP)) = true
    by_cases e : d.what = 1
    ·rw [if_pos e]
     exact w2 e
    ·rw [if_neg e]
     exact decide_eq_true (right_par hr h6 e)
   have hop : (openP s.par s.motions d s.ep).1 = (if atO s.motions = s.motions.length then s.motions ++ [openM s.par d s.ep] else s.motions.set (atO s.motions) (openM s.par d s.ep)) ∧ atO s.motions ≤ 31 := by
    have g1 : (!parR s.par) = false := by rw [f1]; rfl
    have g2 : (!(decide (d.kind = 6) && rightD d)) = false := by rw [hr, decide_eq_true h6]; rfl
    have g3 : (!wi s.ep 0 1073741824) = false := by rw [f2]; rfl
    unfold openP at c2 ⊢
    rw [g1, g2, g3] at c2 ⊢
    simp only [Bool.false_eq_true, if_false] at c2 ⊢
    split at c2
    ·exact absurd c2 (by simp)
    ·rename_i q
     rw [if_neg q]
     refine ⟨?_, by omega⟩
     split <;> rfl
   obtain ⟨o1, o2⟩ := hop
   have hl := atO_le s.motions
   rw [o1]
   refine fits_upd hf a1 a2 (pool_all hf).1 (pool_all hf).2 ?_ (fun m hm' => ?_) (by rw [a3]; omega)
   ·split
    ·rename_i q
     simp only [List.length_append, List.length_cons, List.length_nil]
     omega
    ·rw [List.length_set]; exact (mot_all hf).1
   ·split at hm'
    ·rcases List.mem_append.1 hm' with q | q
     ·exact (mot_all hf).2 m q
     ·rw [List.mem_singleton.1 q]; exact hm
    ·rcases List.mem_or_eq_of_mem_set hm' with q | q
     ·exact (mot_all hf).2 m q
     ·rw [q]; exact hm
  ·rename_i c2
   exact absurd h0 c2
 ·rename_i c1
  exact absurd h0 c1
theorem vote_fits {s : StD} {d : DeedD} (hf : fitsS s = true) (h0 : (voteSP s d).2 = 0) : fitsS (voteSP s d).1 = true := by
 obtain ⟨m1, m2⟩ := mot_all hf
 unfold voteSP at h0 ⊢
 split at h0
 ·rename_i c1
  rw [if_pos c1]
  split at h0
  ·rename_i c2
   rw [if_pos c2]
   have hv : voteP s.motions d.mot d.mem d.yes = (s.motions.set d.mot.toNat (voteC (gr zeroMot s.motions d.mot.toNat) d.mem d.yes).1, 0) ∧ d.mot.toNat < s.motions.length := by
    unfold voteP at c2 ⊢
    split at c2
    ·rename_i q1
     rw [if_pos q1]
     split at c2
     ·rename_i q2
      rw [if_pos q2]
      have := wi_iff.1 q1
      exact ⟨rfl, by omega⟩
     ·rename_i q2
      exact absurd c2 q2
    ·exact absurd c2 (by simp)
   obtain ⟨v1, v2⟩ := hv
   rw [v1]
   refine fits_upd hf rfl (purses_iff.1 (fitsS_iff.1 hf).2.2.2.1).2 (pool_all hf).1 (pool_all hf).2 (by rw [List.length_set]; exact m1) (fun m hm => ?_) rfl
   rcases List.mem_or_eq_of_mem_set hm with q | q
   ·exact m2 m q
   ·have h2 := m2 (gr zeroMot s.motions d.mot.toNat) (by rw [gr_lt v2]; exact List.getElem_mem v2)
    rw [q]
    generalize gr zeroMot s.motions d.mot.toNat = x at h2
    unfold voteC
    split
    ·exact h2
    ·split
     ·exact h2
     ·split
      ·simp only [motFits, Bool.and_eq_true, chk128] at h2 ⊢
       simp only [setB, List.length_set]
       exact h2
      ·simp only [motFits, Bool.and_eq_true, chk128] at h2 ⊢
       simp only [setB, List.length_set]
       exact h2
  ·rename_i c2
   exact absurd h0 c2
 ·exact absurd h0 (by simp)
theorem memP_ok {s : StD} {d : DeedD} (hk : d.kind = 3 ∨ d.kind = 4 ∨ d.kind = 7) (h0 : memP s d = 0) : 0 ≤ d.mem ∧ d.mem < s.members.length := by
 unfold memP at h0
 rw [if_pos hk] at h0
 split at h0
 ·exact absurd h0 (by simp)
 ·omega
theorem doP_fits {s : StD} {d : DeedD} (hf : fitsS s = true) (hr : rightD d = true) (ha : 0 ≤ d.amt) (hb0 : 0 ≤ s.par.bond) (hk : ∀ i, 0 ≤ at0 s.marks i ∧ at0 s.marks i ≤ 255) (hb : ∀ i, 0 ≤ at0 d.bits i ∧ at0 d.bits i ≤ 255) (h0 : (doP s d).2 = 0) : fitsS (doP s d).1 = true := by
 unfold doP at h0 ⊢
 split at h0
 ·rename_i c; exact absurd h0 c
 rename_i c1
 rw [if_neg c1]
 split at h0
 ·rename_i c; exact absurd h0 c
 rename_i c2
 rw [if_neg c2]
 have c1' : accP s d = 0 := Decidable.not_not.1 c1
 have c2' : memP s d = 0 := Decidable.not_not.1 c2
 split at h0
 ·rename_i k; rw [if_pos k]; exact send_fits hf ha h0
 rename_i k1
 rw [if_neg k1]
 split at h0
 ·rename_i k
  rw [if_pos k]
  exact stake_fits hf ha (k.imp id fun k => ⟨k, memP_ok (Or.inl k) c2'⟩) h0
 rename_i k2
 rw [if_neg k2]
 split at h0
 ·rename_i k
  rw [if_pos k]
  have := memP_ok (Or.inr (Or.inl k)) c2'
  exact leave_fits hf this.1 this.2 h0
 rename_i k3
 rw [if_neg k3]
 split at h0
 ·rename_i k; rw [if_pos k]; exact mark_fits hf hk hb h0
 rename_i k4
 rw [if_neg k4]
 split at h0
 ·rename_i k; rw [if_pos k]; exact mot_fits hf hr k c1' hb0 h0
 rename_i k5
 rw [if_neg k5]
 exact vote_fits hf h0
variable {L : Own} {h : PH} {K : PK}
theorem okO_le {o : Option (Nat × Nat)} {n : Nat} (ho : okO o n) : n ≤ 9223372036854775807 := by
 cases o with
 | none => have : n = 0 := ho; omega
 | some p => have := ho.2; have := ho.1; simp only [maxLen] at *; omega
theorem fin_pub2 {e1 sz1 n1 e2 sz2 n2 : Nat} {o1 o2 : Option (Nat × Nat)} {xs1 xs2 : List Value} {L : Own} {h : PH} {K : PK} {v : Value} (ok1 : okO o1 n1) (hl1 : xs1.length = n1 * sz1) (hn1 : n1 ≤ 9223372036854775807) (ok2 : okO o2 n2) (hl2 : xs2.length = n2 * sz2) (hn2 : n2 ≤ 9223372036854775807)
  (ap : Ap (oent e1 sz1 o1 xs1 (oent e2 sz2 o2 xs2 [])) h) (nd : Nd (oent e1 sz1 o1 xs1 (oent e2 sz2 o2 xs2 [])))
  (hk : ∀ h', PH.le h h' → Sl h' (ovs o1 n1) n1 sz1 xs1 → Sl h' (ovs o2 n2) n2 sz2 xs2 → fin K v L h') (he1 : e1 ≠ 4294967295 := by first | decide | omega) (he2 : e2 ≠ 4294967295 := by first | decide | omega) : fin K v (oent e1 sz1 o1 xs1 (oent e2 sz2 o2 xs2 L)) h := by
 have a1 : apO o1 [] h := by
  cases o1 with
  | none => trivial
  | some p => exact ⟨trivial, ap.1⟩
 have a2 : apO o2 [] (pubO h o1 xs1) := by
  cases o2 with
  | none => trivial
  | some q =>
   cases o1 with
   | none => exact ⟨trivial, ap.1⟩
   | some p => exact ⟨trivial, pubO_noC (o := some p) (Ne.symm nd.1.1) ap.2.1⟩
 have le1 := pub_le_o a1 xs1
 have le2 := pub_le_o a2 xs2
 obtain ⟨L', h', hd, hk⟩ := hk _ (le1.trans le2) ((pub_sl ok1 hl1 hn1).up le2) (pub_sl ok2 hl2 hn2)
 exact ⟨L', h', ((pub_drop_o o1 xs1 _ h he1).trans (pub_drop_o o2 xs2 L _ he2)).trans hd, hk⟩
theorem ap_two {e1 s1 e2 s2 : Nat} {o1 o2 : Option (Nat × Nat)} {x1 x2 : List Value} {x : Blk} {L : Own} {h : PH} (ap : Ap (x :: oent e1 s1 o1 x1 (oent e2 s2 o2 x2 L)) h) (nd : Nd (x :: oent e1 s1 o1 x1 (oent e2 s2 o2 x2 L))) :
  Ap (oent e1 s1 o1 x1 (oent e2 s2 o2 x2 [])) h ∧ Nd (oent e1 s1 o1 x1 (oent e2 s2 o2 x2 [])) := by
 cases o1 with
 | none =>
  cases o2 with
  | none => exact ⟨trivial, trivial⟩
  | some q => exact ⟨⟨ap.2.1, trivial⟩, ⟨trivial, trivial⟩⟩
 | some p =>
  cases o2 with
  | none => exact ⟨⟨ap.2.1, trivial⟩, ⟨trivial, trivial⟩⟩
  | some q => exact ⟨⟨ap.2.1, ap.2.2.1, trivial⟩, ⟨⟨nd.2.1.1, trivial⟩, trivial, trivial⟩⟩
theorem full3_facts {e1 s1 e2 s2 : Nat} {o1 o2 : Option (Nat × Nat)} {x1 x2 : List Value} {a b c : Blk} {L : Own} {h : PH} (ap : Ap (oent e1 s1 o1 x1 (oent e2 s2 o2 x2 (a :: b :: c :: L))) h) (nd : Nd (oent e1 s1 o1 x1 (oent e2 s2 o2 x2 (a :: b :: c :: L)))) :
  (h a.b = noC ∧ h b.b = noC ∧ h c.b = noC) ∧ (apB o1 a.b ∧ apB o1 b.b ∧ apB o1 c.b) ∧ apB o2 a.b ∧ apB o2 b.b ∧ apB o2 c.b := by
 cases o1 with
 | none =>
  cases o2 with
  | none => exact ⟨⟨ap.1, ap.2.1, ap.2.2.1⟩, ⟨trivial, trivial, trivial⟩, trivial, trivial, trivial⟩
  | some q => exact ⟨⟨ap.2.1, ap.2.2.1, ap.2.2.2.1⟩, ⟨trivial, trivial, trivial⟩, Ne.symm nd.1.1, Ne.symm nd.1.2.1, Ne.symm nd.1.2.2.1⟩
 | some p =>
  cases o2 with
  | none => exact ⟨⟨ap.2.1, ap.2.2.1, ap.2.2.2.1⟩, ⟨Ne.symm nd.1.1, Ne.symm nd.1.2.1, Ne.symm nd.1.2.2.1⟩, trivial, trivial, trivial⟩
  | some q => exact ⟨⟨ap.2.2.1, ap.2.2.2.1, ap.2.2.2.2.1⟩, ⟨Ne.symm nd.1.2.1, Ne.symm nd.1.2.2.1, Ne.symm nd.1.2.2.2.1⟩, Ne.symm nd.2.1.1, Ne.symm nd.2.1.2.1, Ne.symm nd.2.1.2.2.1⟩
theorem i64minR : IntKind.i64.min = -9223372036854775808 := by decide
theorem i64maxR : IntKind.i64.max = 9223372036854775807 := by decide
theorem Hd.ones {v : SV} {s : StD} (hh : Hd h v s) : v.p.oneCell' = true ∧ v.m.oneCell' = true ∧ v.e.oneCell' = true ∧ v.x.oneCell' = true ∧ v.o.oneCell' = true ∧ v.d.oneCell' = true ∧ v.t.oneCell' = true ∧ v.k.oneCell' = true ∧ v.r.oneCell' = true := by
 obtain ⟨_, _, e1, _⟩ := hh.p.open
 obtain ⟨_, _, e2⟩ := hh.m
 obtain ⟨_, _, e3, _⟩ := hh.e.open
 obtain ⟨_, _, e4⟩ := hh.x
 obtain ⟨_, _, e5, _⟩ := hh.o.open
 obtain ⟨_, _, e6, _⟩ := hh.d.open
 obtain ⟨_, q, _⟩ := hh.t
 obtain ⟨_, _, e7, _⟩ := q.open
 obtain ⟨_, _, e8, _⟩ := hh.k.open
 obtain ⟨_, r, _⟩ := hh.r
 obtain ⟨_, _, e9, _⟩ := r.open
 rw [e1, e2, e3, e4, e5, e6, e7, e8, e9]
 exact ⟨rfl, rfl, rfl, rfl, rfl, rfl, rfl, rfl, rfl⟩
theorem Hd.st {v : SV} {s : StD} (hh : Hd h v s) (hm : Recs memC 6 h v.m s.members) (hx : Ints h .i64 v.x s.exit) : IsSt h v s :=
 ⟨hh.ok, hh.p, hm, hh.mo, hh.e, hx, hh.o, hh.oo, hh.d, hh.dd, hh.t, hh.k, hh.r⟩
theorem Hd.parts {v : SV} {s : StD} (hs : Hd h v s) : 0 ≤ sStk s ∧ 0 ≤ sPur s ∧ 0 ≤ sPool s ∧ 0 ≤ sDue s :=
 ⟨tot_nonneg fun i => at0_map _ _ (fun x hx => ((hs.mo x hx).u _ (by simp)).1) i, tot_nonneg fun i => (hs.p.word i).1, tot_nonneg fun i => at0_map _ _ (fun x hx => (hs.oo x hx).a.1) i, tot_nonneg fun i => at0_map _ _ (fun x hx => (hs.dd x hx).a.1) i⟩
theorem Hd.use {v : SV} {s : StD} (hs : Hd h v s) (hf : fitsS s = true) : s.members.length ≤ 128 ∧ (∀ m ∈ s.motions, m.yes.length = 16 ∧ m.no.length = 16) ∧ s.treas + s.par.bond ≤ 18446744073709551615 ∧ 0 ≤ s.par.bond := by
 obtain ⟨f1, f2, f3, f4, f5, f6, f7, f8, f9⟩ := fitsS_iff.1 hf
 obtain ⟨p1, p2, p3, p4⟩ := hs.parts
 have ub : 0 ≤ s.par.bond ∧ s.par.bond ≤ 18446744073709551615 := hs.ok.p.1 _ (by simp [wides])
 have pp := par_poll f1
 have u1 : 0 ≤ s.burn ∧ s.burn ≤ 18446744073709551615 := hs.ok.u _ (by simp)
 simp only [holdsB, Bool.and_eq_true, decide_eq_true_eq] at f9
 obtain ⟨⟨q1, q2⟩, q3⟩ := f9
 have q4 : sStk s + sPur s + sPool s + sDue s + s.treas + s.burn = s.gen + s.mint := by first | exact q3 | exact of_decide_eq_true q3
 simp only [membersB, Bool.and_eq_true, decide_eq_true_eq] at f5
 refine ⟨f5.1.1.1, fun m hm => ?_, by omega, ub.1⟩
 have := (mot_all hf).2 m hm
 simp only [motFits, Bool.and_eq_true, chk128] at this
 exact ⟨this.1.1.1.1.2, this.1.1.1.2⟩
theorem own_few {s : StD} (hf : fitsS s = true) (hd : s.dues.length ≤ 1000) : OwnFew s := by
 obtain ⟨f1, f2, f3, f4, f5, f6, f7, f8, f9⟩ := fitsS_iff.1 hf
 simp only [membersB, rowB, Bool.and_eq_true, decide_eq_true_eq] at f5
 simp only [marksB, rollB, Bool.and_eq_true, decide_eq_true_eq, List.all_eq_true, chk128] at f8
 have p4 := (purses_iff.1 f4).1
 have h1 := cntS_le s.members 1 s.members.length
 have h3 := cntS_le s.members 3 s.members.length
 have h5 := f5.1.1.1
 refine ⟨by omega, by omega, by omega, by omega, by have := (pool_all hf).1; omega, hd, by have := (mot_all hf).1; omega, by omega, by omega, fun m hm => ?_, fun b hb => by have := f8.1.2 b hb; omega⟩
 have := (mot_all hf).2 m hm
 simp only [motFits, Bool.and_eq_true, chk128] at this
 omega
theorem own_fewS {s : StD} (ho : OwnFew s) : FewS s := ⟨by have := ho.p; omega, by have := ho.m; omega, by have := ho.e; omega, by have := ho.x; omega, by have := ho.o; omega, by have := ho.d; omega, by have := ho.t; omega, by have := ho.r; omega⟩
theorem doP_exit {s : StD} {d : DeedD} : ∀ z ∈ (doP s d).1.exit, z ∈ s.exit ∨ z = d.mem := by
 unfold doP
 repeat' split
 ·exact fun z hz => Or.inl hz
 ·exact fun z hz => Or.inl hz
 ·rw [(sendP_me s d).2]; exact fun z hz => Or.inl hz
 ·rw [(stakeP_me s d).2]; exact fun z hz => Or.inl hz
 ·unfold leaveP
  split
  ·intro z hz
   rcases List.mem_append.1 hz with hz | hz
   ·exact Or.inl hz
   ·exact Or.inr (List.mem_singleton.1 hz)
  ·exact fun z hz => Or.inl hz
 ·rw [(markSP_me s d).2]; exact fun z hz => Or.inl hz
 ·rw [(motP_me s d).2]; exact fun z hz => Or.inl hz
 ·rw [(voteSP_me s d).2]; exact fun z hz => Or.inl hz
theorem doP_dues {s : StD} {d : DeedD} : (doP s d).1.dues = s.dues := by
 have e1 : (sendP s d).1.dues = s.dues := by unfold sendP; repeat' split <;> rfl
 have e2 : (stakeP s d).1.dues = s.dues := by
  unfold stakeP
  repeat' split
  all_goals rfl
 have e3 : (leaveP s d).1.dues = s.dues := by unfold leaveP; split <;> rfl
 have e4 : (markSP s d).1.dues = s.dues := by
  unfold markSP
  repeat' split
  all_goals rfl
 have e5 : (motP s d).1.dues = s.dues := by
  unfold motP
  repeat' split
  all_goals rfl
 have e6 : (voteSP s d).1.dues = s.dues := by
  unfold voteSP
  repeat' split
  all_goals rfl
 unfold doP
 repeat' split
 all_goals first | rfl | assumption
def riteP (s : StD) (d : DeedD) : StD × Int := if fitsS s then (if rightD d then (if (doP s d).2 = 0 then doP s d else (zeroS, (doP s d).2)) else (zeroS, 80)) else (zeroS, 291)
theorem Hd.of {u : SV} {s : StD} {h h' : PH} {v : SV} {o ox : Option (Nat × Nat)} (hs : IsSt h v s) (hn : IsSt h' (setMX u (.slice none 0 0) (.slice none 0 0)) (noMX s)) (ok1 : okO o s.members.length) (ok2 : okO ox s.exit.length) : Hd h' (setMX u (ovs o s.members.length) (ovs ox s.exit.length)) s := by
 obtain ⟨a, c, e, _⟩ := ovs_open ok1
 obtain ⟨a2, c2, e2, _⟩ := ovs_open ok2
 exact ⟨⟨hs.ok.p, hs.ok.u, hs.ok.n⟩, hn.p, ⟨a, c, e⟩, hs.mo, hn.e, ⟨a2, c2, e2⟩, hn.o, hs.oo, hn.d, hs.dd, hn.t, hn.k, hn.r⟩
theorem rdo_any {s : StD} {v : SV} {d : DeedD} {bv : Value} (hs : IsSt h v s) (few : OwnFew s) (hd : IsDeed h bv d)
  (hk : ∀ h' v', PH.le h h' → IsSt h' v' (riteP s d).1 → K (.tuple #[stV (riteP s d).1 v', .int .i64 (riteP s d).2]) L h') :
  Spec Tryz.prog 14 [stV s v, deedV d bv] L h K := by
 have hd0 := hd
 obtain ⟨pa, pc, ma, mc, ea, ec, xa, xc, oa, oc, da, dc, ta, tc, ka, kc, ra, rc, rfl⟩ := hs.slices
 obtain ⟨x1, y1, rfl, _⟩ := hd.i.open
 refine x_enter Tryz.func14 rfl (rs := [_, _]) rfl rfl mixed (by kernel_rfl) rfl rfl ?_
 simp -dsimp -implicitDefEqProofs (disch := first|with_reducible assumption|omega) [go_sem]
 refine xnew fun b2 n_b2 h_b2 => ?_
 try simp only [Apart] at n_b2
 simp -dsimp -implicitDefEqProofs (disch := first|with_reducible assumption|omega) [go_sem]
 refine xnew fun b3 n_b3 h_b3 => ?_
 try simp only [Apart] at n_b3
 simp -dsimp -implicitDefEqProofs (disch := first|with_reducible assumption|omega) [go_sem]
 refine xnew fun b4 n_b4 h_b4 => ?_
 try simp only [Apart] at n_b4
 simp -dsimp -implicitDefEqProofs (disch := first|with_reducible assumption|omega) [go_sem]
 refine fits_any (s := s) ⟨.slice pa s.purses.length pc, .slice ma s.members.length mc, .slice ea s.entry.length ec, .slice xa s.exit.length xc, .slice oa s.pool.length oc, .slice da s.dues.length dc, .slice ta s.motions.length tc, .slice ka s.marks.length kc, .slice ra s.ring.length rc⟩ hs (own_fewS few) ?_
 unfold riteP at hk
 cases c1 : fitsS s with
 | false =>
  rw [c1, if_neg (by decide)] at hk
  simp -dsimp -implicitDefEqProofs (disch := first|with_reducible assumption|omega) [go_sem]
  exact fin_tail (fin_tail (fin_tail (fin_here (hk h nilV (PH.le_refl _) (isSt_zero h)))))
 | true =>
 rw [c1, if_pos rfl] at hk
 simp -dsimp -implicitDefEqProofs (disch := first|with_reducible assumption|omega) [go_sem]
 refine Spec.ap (dright_any (d := d) (.slice x1 d.bits.length y1) hd0 fun h2 le2 ap => ?_)
 simp only [Ap] at ap
 obtain ⟨a24, a23, a22, _⟩ := ap
 cases c2 : rightD d with
 | false =>
  rw [c2, if_neg (by decide)] at hk
  simp -dsimp -implicitDefEqProofs (disch := first|with_reducible assumption|omega) [go_sem]
  exact fin_tail (fin_tail (fin_tail (fin_here (hk h2 nilV le2 (isSt_zero h2)))))
 | true =>
 rw [c2, if_pos rfl] at hk
 simp -dsimp -implicitDefEqProofs (disch := first|with_reducible assumption|omega) [go_sem]
 refine Spec.apn (own24_any (s := s) ⟨.slice pa s.purses.length pc, .slice ma s.members.length mc, .slice ea s.entry.length ec, .slice xa s.exit.length xc, .slice oa s.pool.length oc, .slice da s.dues.length dc, .slice ta s.motions.length tc, .slice ka s.marks.length kc, .slice ra s.ring.length rc⟩ (hs.up le2) few fun h5 u om ox le5 ok1 ok2 hn ap5 nd5 => ?_)
 obtain ⟨⟨a54, a53, a52⟩, ⟨p14, p13, p12⟩, p24, p23, p22⟩ := full3_facts ap5 nd5
 simp only at a54 a53 a52 p14 p13 p12 p24 p23 p22
 clear ap5 nd5
 simp -dsimp -implicitDefEqProofs (disch := first|with_reducible assumption|omega) [go_sem]
 refine xnew fun bh n_bh h_bh => ?_
 try simp only [Apart] at n_bh
 have nh4 : b4 ≠ bh := of_apart n_bh _ (mem_oent (mem_oent List.mem_cons_self))
 have nh3 : b3 ≠ bh := of_apart n_bh _ (mem_oent (mem_oent (List.mem_cons_of_mem _ List.mem_cons_self)))
 have nh2 : b2 ≠ bh := of_apart n_bh _ (mem_oent (mem_oent (List.mem_cons_of_mem _ (List.mem_cons_of_mem _ List.mem_cons_self))))
 simp -dsimp -implicitDefEqProofs (disch := first|with_reducible assumption|omega) [go_sem, xFind_oent p13, xFind_oent p23]
 have hh5 := Hd.of (hs.up le2) hn ok1 ok2
 have le25 := le2.trans le5
 obtain ⟨q1, q2, q3, q4⟩ := hh5.use c1
 have rf := right_facts c2
 refine Spec.fin (Spec.apn (hdo_any (d := d) (s := s) (om := om) (ox := ox) hh5 few (hd0.up le25) rfl ok1 rfl ok2 q1 q2 q3 rf.1 fun h6 v6 ox6 le6 g1 g2 g3 g4 g5 ap6 nd6 => ⟨_, _, Drop.perm h6 (full_perm _ _ _ _ _ _ _ _ _ _ _).symm, ?_⟩))
 obtain ⟨two1, two2⟩ := ap_two ap6 nd6
 have f3 := full3_facts ap6.2 nd6.2
 have a64 : h6 b4 = noC := f3.1.1
 have a6h : h6 bh = noC := ap6.1
 clear ap6 nd6 f3
 have hxr : ∀ z ∈ (doP s d).1.exit, -9223372036854775808 ≤ z ∧ z ≤ 9223372036854775807 := fun z hz => by
  rcases doP_exit z hz with q | q
  ·have := hs.x.2 z q
   rwa [i64minR, i64maxR] at this
  ·rw [q]; exact hd0.ok.n _ (by simp)
 have okm6 : okO om (doP s d).1.members.length := by rw [g5]; exact ok1
 by_cases e : (doP s d).2 = 0
 case neg =>
  rw [if_neg e] at hk
  simp -dsimp -implicitDefEqProofs (disch := first|with_reducible assumption|omega) [go_sem]
  exact fin_tail (fin_tail (fin_oent (fin_oent (fin_tail (fin_tail (fin_here (hk h6 nilV (le25.trans le6) (isSt_zero h6))))))))
 rw [if_pos e] at hk
 generalize doP s d = R at *
 obtain ⟨t, c⟩ := R
 simp only at *
 subst e
 simp -dsimp -implicitDefEqProofs (disch := first|with_reducible assumption|omega) [go_sem]
 refine ⟨g1.ones, ?_⟩
 refine fin_tail (fin_tail (fin_pub2 (n1 := t.exit.length) (n2 := t.members.length) g4 (by simp) (okO_le g4) okm6 (by rw [flatG_len memC_len]) (okO_le okm6) two1 two2 fun h7 le7 sx sm => fin_tail (fin_tail (fin_here ?_))))
 refine hk h7 v6 (le25.trans (le6.trans le7)) (Hd.st (g1.up le7) ?_ ?_)
 ·rw [g2]; exact Recs.pub memC_len sm
 ·rw [g3]
  refine ⟨by simpa using sx, fun z hz => ?_⟩
  rw [i64minR, i64maxR]
  exact hxr z hz
end Go.X

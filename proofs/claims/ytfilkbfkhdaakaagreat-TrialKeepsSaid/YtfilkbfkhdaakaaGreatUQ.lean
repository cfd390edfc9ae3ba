/- Plain laws of adoption: what is adopted fits as a state, and no money is lost. Conditions: a state that fits, right parameters (no function of the program). -/
import Derived.Test.YtfilkbfkhdaakaaGreatUP
set_option linter.unusedVariables false
set_option linter.unusedSimpArgs false
set_option maxRecDepth 20000
namespace Go.X
open Go.RowKit Go.Proofs Go.Bl
theorem adX_map (s : StD) (q : ParD) : (adX s q).1 = s.members.map (clampM q) := by
  rw [adX, clN_up q (s.members, s.purses) s.members.length (Nat.le_refl _)]
  exact upN_all _ _
theorem upN_all' {f : MemD → MemD} {l : List MemD} {n : Nat} (h : l.length = n) : upN f l n = l.map f := by
  subst h; exact upN_all f l
theorem adMem_map (s : StD) (q : ParD) : adMem s q = s.members.map (doneF q) := by
  have h1 : (s.members.map (clampM q)).length = s.members.length := List.length_map _
  have h2 : ((s.members.map (clampM q)).map (ejF q)).length = s.members.length := by rw [List.length_map, List.length_map]
  rw [adMem, adX_map, upN_all' h1, upN_all' h2, List.map_map, List.map_map]
  rfl
theorem gr_map {f : MemD → MemD} {l : List MemD} {j : Nat} (hj : j < l.length) : gr zeroM (l.map f) j = f (gr zeroM l j) := by
  rw [gr_lt (by simpa using hj), gr_lt hj, List.getElem_map]
abbrev ejD (q : ParD) (m : MemD) : Prop := ejP q (clampM q m)
theorem ejD_cnt {q : ParD} {m : MemD} (h : ejD q m) : m.status = 2 ∨ m.status = 3 := h.1
theorem done_status (q : ParD) (m : MemD) : (doneF q m).status = if ejD q m then 4 else m.status := by
  unfold doneF
  by_cases c : ejP q (clampM q m)
  · rw [show ejF q (clampM q m) = endM (clampM q m) from if_pos c, setF, if_neg (by simp [cntM, endM]), if_pos c]
    rfl
  · rw [show ejF q (clampM q m) = clampM q m from if_neg c, if_neg c]
    unfold setF
    split <;> rfl
/-! who stays in line -/
theorem perm_of_sub2 : ∀ {S l : List Int}, S.Nodup → (∀ x ∈ S, x ∈ l) → l.length = S.length → l.Perm S
  | [], l, _, _, hl => by
    have : l = [] := List.eq_nil_of_length_eq_zero hl
    rw [this]
  | a :: S, l, hn, hs, hl => by
    have ha := hs a (by simp)
    rw [List.nodup_cons] at hn
    have h1 := List.perm_cons_erase ha
    have h2 := List.length_erase_of_mem ha
    refine h1.trans (List.Perm.cons _ (perm_of_sub2 hn.2 (fun x hx => ?_) ?_))
    · have hne : x ≠ a := fun e => hn.1 (e ▸ hx)
      exact (List.mem_erase_of_ne hne).2 (hs x (by simp [hx]))
    · rw [h2, hl]; simp
def stL (l : List MemD) (st : Int) (n : Nat) : List Nat := (List.range n).filter fun j => decide ((gr zeroM l j).status = st)
theorem cntS_len (l : List MemD) (st : Int) : ∀ k, cntS l st k = (stL l st k).length
  | 0 => rfl
  | k + 1 => by
    rw [cntS, cntS_len l st k, stL, stL, List.range_succ, List.filter_append, List.length_append]
    by_cases c : (gr zeroM l k).status = st
    · simp [c]
    · simp [c]
def keepB (q : ParD) (cs : List MemD) (k : Nat) (x : Int) : Bool := decide (∀ j, j < k → ejP q (gr zeroM cs j) → x ≠ (j : Int))
theorem exN_eq (q : ParD) (cs : List MemD) (xs : List Int) : ∀ k, exN q cs xs k = xs.filter (keepB q cs k)
  | 0 => by
    symm
    rw [exN, List.filter_eq_self]
    intro x _
    simp [keepB]
  | k + 1 => by
    have hsame : ∀ x, keepB q cs (k + 1) x = (keepB q cs k x && !(decide (ejP q (gr zeroM cs k)) && decide (x = (k : Int)))) := fun x => by
      rw [Bool.eq_iff_iff]
      simp only [keepB, Bool.and_eq_true, decide_eq_true_eq, Bool.not_eq_true', Bool.and_eq_false_iff, decide_eq_false_iff_not]
      constructor
      · intro h
        refine ⟨fun j hj => h j (by omega), ?_⟩
        by_cases c : ejP q (gr zeroM cs k)
        · exact .inr (h k (by omega) c)
        · exact .inl c
      · rintro ⟨h1, h2⟩ j hj hp
        rcases (by omega : j < k ∨ j = k) with c | rfl
        · exact h1 j c hp
        · rcases h2 with h2 | h2
          · exact absurd hp h2
          · exact h2
    rw [exN, exN_eq q cs xs k]
    split
    · rename_i c
      rw [dropI, List.filter_filter]
      refine List.filter_congr fun x _ => ?_
      rw [hsame]
      simp [c, Bool.and_comm]
    · rename_i c
      refine List.filter_congr fun x _ => ?_
      rw [hsame]
      simp [c]
theorem keep_iff {q : ParD} {cs : List MemD} {n j : Nat} (hj : j < n) : keepB q cs n (j : Int) = !decide (ejP q (gr zeroM cs j)) := by
  rw [Bool.eq_iff_iff]
  simp only [keepB, decide_eq_true_eq, Bool.not_eq_true', decide_eq_false_iff_not]
  constructor
  · intro h hp
    exact h j hj hp rfl
  · intro h i hi hp e
    have : i = j := by omega
    subst this
    exact h hp
theorem stL_mem {l : List MemD} {st : Int} {n j : Nat} : j ∈ stL l st n ↔ j < n ∧ (gr zeroM l j).status = st := by
  simp [stL]
theorem stL_nodup (l : List MemD) (st : Int) (n : Nat) : ((stL l st n).map fun j : Nat => (j : Int)).Nodup := by
  rw [List.Nodup, List.pairwise_map]
  have h1 : (stL l st n).Nodup := List.Nodup.sublist List.filter_sublist List.nodup_range
  exact h1.imp fun h e => h (by omega)
theorem hasB_mem {s : StD} {l : List Int} {st : Int} (h : hasB s l st = true) {j : Nat} (hj : j < s.members.length) (e : (gr zeroM s.members j).status = st) : (j : Int) ∈ l := by
  rw [hasB, List.all_eq_true] at h
  have := h j (List.mem_range.2 hj)
  simpa [e] using this
theorem row_done {s : StD} {q : ParD} (h : rowB s s.exit 3 = true) : rowB (adS s q) (adExit s q) 3 = true := by
  rw [rowB, Bool.and_eq_true, decide_eq_true_eq] at h ⊢
  obtain ⟨h1, h2⟩ := h
  have hM : (adS s q).members = s.members.map (doneF q) := adMem_map s q
  have hl : (adS s q).members.length = s.members.length := by rw [hM, List.length_map]
  have hE : adExit s q = s.exit.filter (keepB q (adX s q).1 s.members.length) := exN_eq _ _ _ _
  have hk : ∀ j, j < s.members.length → keepB q (adX s q).1 s.members.length (j : Int) = !decide (ejD q (gr zeroM s.members j)) := fun j hj => by
    rw [keep_iff hj, adX_map, gr_map hj]
  have hst : ∀ j, j < s.members.length → ((gr zeroM (adS s q).members j).status = 3 ↔ (gr zeroM s.members j).status = 3 ∧ ¬ ejD q (gr zeroM s.members j)) := fun j hj => by
    rw [hM, gr_map hj, done_status]
    split
    · rename_i c; simp [c]
    · rename_i c; simp [c]
  constructor
  · refine hasB_true fun j hj e => ?_
    rw [hl] at hj
    have h3 := (hst j hj).1 e
    rw [hE, List.mem_filter]
    exact ⟨hasB_mem h1 hj h3.1, by rw [hk j hj, decide_eq_false h3.2]; rfl⟩
  · have hp : s.exit.Perm ((stL s.members 3 s.members.length).map fun j : Nat => (j : Int)) := by
      refine perm_of_sub2 (stL_nodup _ _ _) (fun x hx => ?_) ?_
      · obtain ⟨j, hj, rfl⟩ := List.mem_map.1 hx
        rw [stL_mem] at hj
        exact hasB_mem h1 hj.1 hj.2
      · rw [List.length_map, h2, cntS_len]
    rw [hE, (hp.filter _).length_eq, hl, cntS_len, List.filter_map, List.length_map]
    congr 1
    rw [stL, stL, List.filter_filter]
    refine List.filter_congr fun j hj => ?_
    rw [List.mem_range] at hj
    have h3 := hst j hj
    rw [Bool.eq_iff_iff]
    simp only [Bool.and_eq_true, Function.comp_apply, hk j hj, Bool.not_eq_true', decide_eq_false_iff_not, decide_eq_true_eq]
    rw [h3, and_comm]
theorem row_entry {s : StD} {q : ParD} (h : rowB s s.entry 1 = true) : rowB (adS s q) s.entry 1 = true := by
  rw [rowB, Bool.and_eq_true, decide_eq_true_eq] at h ⊢
  obtain ⟨h1, h2⟩ := h
  have hM : (adS s q).members = s.members.map (doneF q) := adMem_map s q
  have hl : (adS s q).members.length = s.members.length := by rw [hM, List.length_map]
  have hst : ∀ j, j < s.members.length → ((gr zeroM (adS s q).members j).status = 1 ↔ (gr zeroM s.members j).status = 1) := fun j hj => by
    rw [hM, gr_map hj, done_status]
    split
    · rename_i c
      have := ejD_cnt c
      constructor
      · intro e; cases e
      · intro e; omega
    · exact Iff.rfl
  constructor
  · refine hasB_true fun j hj e => ?_
    rw [hl] at hj
    exact hasB_mem h1 hj ((hst j hj).1 e)
  · rw [hl, h2, cntS_len, cntS_len]
    congr 1
    refine List.filter_congr fun j hj => ?_
    rw [List.mem_range] at hj
    rw [Bool.eq_iff_iff]
    simp only [decide_eq_true_eq, hst j hj]
/-! what is due -/
def keyO (d : DueD) : Int × Int := (d.acct, d.at')
def KeyR (a b : Int × Int) : Prop := a ≠ b ∧ a.2 ≤ b.2
/-- dues unlike by account and tick, in order -/
def LineD (l : List DueD) : Prop := (l.map keyO).Pairwise KeyR
theorem sameK_key (d x : DueD) : sameK d x = true ↔ keyO x = keyO d := by
  simp [sameK, keyO]
theorem ord_le {l : List DueD} (h : ∀ k, k < l.length → ordB l k = true) : ∀ (m j : Nat), j + m < l.length → (gr zeroDue l j).at' ≤ (gr zeroDue l (j + m)).at'
  | 0, j, _ => Int.le_refl _
  | m + 1, j, hj => by
    have h1 := ord_le h m j (by omega)
    have h2 := h (j + (m + 1)) hj
    rw [ordB, Bool.or_eq_true, decide_eq_true_eq, decide_eq_true_eq] at h2
    rcases h2 with h2 | h2
    · omega
    · rw [show j + (m + 1) - 1 = j + m by omega] at h2
      omega
theorem line_iff {l : List DueD} : LineD l ↔ ∀ k, k < l.length → metB l k = false ∧ ordB l k = true := by
  rw [LineD, List.pairwise_iff_getElem]
  simp only [List.length_map, List.getElem_map]
  constructor
  · intro h k hk
    constructor
    · rw [metB, List.any_eq_false]
      intro j hj
      rw [List.mem_range] at hj
      have := h j k (by omega) hk hj
      rw [gr_lt hk, gr_lt (by omega : j < l.length)]
      intro e
      simp only [Bool.and_eq_true, decide_eq_true_eq] at e
      exact this.1 (by rw [keyO, keyO, e.1, e.2])
    · rw [ordB, Bool.or_eq_true, decide_eq_true_eq, decide_eq_true_eq]
      by_cases c : k = 0
      · exact .inl c
      · right
        have := h (k - 1) k (by omega) hk (by omega)
        rw [gr_lt hk, gr_lt (by omega : k - 1 < l.length)]
        exact this.2
  · intro h i j hi hj hij
    constructor
    · intro e
      have := (h j hj).1
      rw [metB, List.any_eq_false] at this
      have h2 := this i (List.mem_range.2 hij)
      rw [gr_lt hj, gr_lt hi] at h2
      simp only [keyO, Prod.mk.injEq] at e
      exact h2 (by simp [e.1, e.2])
    · have := ord_le (fun k hk => (h k hk).2) (j - i) i (by omega)
      rw [show i + (j - i) = j by omega, gr_lt hj, gr_lt hi] at this
      exact this
theorem placeL_hi {l : List DueD} {t : Int} : ∀ (k j : Nat), placeL l t k ≤ j → j < k → t < (gr zeroDue l j).at'
  | 0, j, _, hj => by omega
  | k + 1, j, h1, h2 => by
    rw [placeL] at h1
    split at h1
    · omega
    · rename_i c
      rcases (by omega : j < k ∨ j = k) with e | rfl
      · exact placeL_hi k j h1 e
      · omega
theorem placeL_lo {l : List DueD} {t : Int} : ∀ (k : Nat), 0 < placeL l t k → (gr zeroDue l (placeL l t k - 1)).at' ≤ t
  | 0, h => by simp [placeL] at h
  | k + 1, h => by
    rw [placeL] at h ⊢
    split at h
    · rename_i c; rw [if_pos c]; exact c
    · rename_i c; rw [if_neg c]; exact placeL_lo k h
theorem line_set {l : List DueD} (h : LineD l) {i : Nat} (hi : i < l.length) (d : DueD) : LineD (l.set i (addD (gr zeroDue l i) d)) := by
  have e : (l.set i (addD (gr zeroDue l i) d)).map keyO = l.map keyO := by
    rw [List.map_set]
    have : keyO (addD (gr zeroDue l i) d) = (l.map keyO)[i]'(by simpa using hi) := by rw [List.getElem_map, gr_lt hi]; rfl
    rw [this, List.set_getElem_self]
  rw [LineD, e]; exact h
theorem line_ins {l : List DueD} (h : LineD l) {d : DueD} (hn : ∀ x ∈ l, keyO x ≠ keyO d) : LineD (insD l d) := by
  obtain ⟨p, hp⟩ : ∃ p, p = placeL l d.at' l.length := ⟨_, rfl⟩
  have hpl := placeL_le l d.at' l.length
  have hhi := placeL_hi (l := l) (t := d.at') l.length
  have hlo := placeL_lo (l := l) (t := d.at') l.length
  rw [← hp] at hpl hhi hlo
  have ho := fun k hk => ((line_iff.1 h) k hk).2
  have h0 := h
  have e : (insD l d).map keyO = (l.take p).map keyO ++ keyO d :: (l.drop p).map keyO := by rw [insD, ← hp, List.map_append, List.map_cons]
  have e2 : l.map keyO = (l.take p).map keyO ++ (l.drop p).map keyO := by rw [← List.map_append, List.take_append_drop]
  rw [LineD, e2, List.pairwise_append] at h0
  rw [LineD, e, List.pairwise_append, List.pairwise_cons]
  refine ⟨h0.1, ⟨fun b hb => ?_, h0.2.1⟩, fun a ha b hb => ?_⟩
  · obtain ⟨x, hx, rfl⟩ := List.mem_map.1 hb
    refine ⟨fun e => hn x (List.mem_of_mem_drop hx) e.symm, ?_⟩
    obtain ⟨j, hj, rfl⟩ := List.mem_iff_getElem.1 hx
    rw [List.length_drop] at hj
    have := hhi (p + j) (by omega) (by omega)
    rw [gr_lt (by omega)] at this
    rw [List.getElem_drop]
    exact Int.le_of_lt this
  · obtain ⟨x, hx, rfl⟩ := List.mem_map.1 ha
    rcases List.mem_cons.1 hb with rfl | hb
    · refine ⟨hn x (List.mem_of_mem_take hx), ?_⟩
      obtain ⟨j, hj, rfl⟩ := List.mem_iff_getElem.1 hx
      rw [List.length_take] at hj
      have h1 := ord_le ho (p - 1 - j) j (by omega)
      rw [show j + (p - 1 - j) = p - 1 by omega] at h1
      have h2 := hlo (by omega)
      rw [gr_lt (by omega : j < l.length)] at h1
      rw [List.getElem_take]
      exact Int.le_trans h1 h2
    · exact h0.2.2 _ ha _ hb
theorem line_owe {l : List DueD} (h : LineD l) (d : DueD) : LineD (oweL l d) := by
  unfold oweL
  split
  · exact h
  · split
    · rename_i c; exact line_set h c d
    · rename_i c
      refine line_ins h fun x hx e => c ?_
      rw [fstK, List.findIdx_lt_length]
      exact ⟨x, hx, (sameK_key d x).2 e⟩
/-- each one due is right -/
def RightD (s : StD) (l : List DueD) : Prop := ∀ x ∈ l, due1B s x = true
theorem right_owe {s : StD} {l : List DueD} {d : DueD} (h : RightD s l) (hl : ∀ x ∈ l, DueOk x) (ha : acctB s d.acct = true) (ht : wi d.at' 0 2147483647 = true) (h0 : 0 ≤ d.amt) (hs : dTot l + d.amt ≤ 4611686018427387904) : RightD s (oweL l d) := by
  intro x hx
  have ht0 : 0 ≤ dTot l := tot_nonneg (amt_pos hl)
  have hd0 : d.amt ≠ 0 ∨ x ∈ l := by
    by_cases c : d.amt = 0
    · rw [oweL, if_pos c] at hx; exact .inr hx
    · exact .inl c
  rcases mem_oweL hx with hx1 | rfl | ⟨h1, rfl⟩
  · exact h x hx1
  · rcases hd0 with c | c
    · simp only [due1B, Bool.and_eq_true, decide_eq_true_eq]
      exact ⟨⟨⟨ha, ht⟩, by omega⟩, by omega⟩
    · exact h _ c
  · have h2 := h _ (grD_mem h1)
    have h3 := amt_le hl h1
    simp only [due1B, Bool.and_eq_true, decide_eq_true_eq] at h2 ⊢
    refine ⟨⟨h2.1.1, ?_⟩, ?_⟩
    · show 1 ≤ (gr zeroDue l (fstK l d)).amt + d.amt
      omega
    · show (gr zeroDue l (fstK l d)).amt + d.amt ≤ _
      omega
theorem dues_ok {s : StD} {q : ParD} {cs : List MemD} {t : Int} (hcs : ∀ x ∈ cs, MemOk x) (ho : ∀ x ∈ cs, acctB s x.owner = true) (ht : wi t 0 2147483647 = true) {ds : List DueD} (hd : DuOk ds 300 (dTot ds)) (hM : dTot ds + tot (cs.map MemD.bal) ≤ 4611686018427387904) (h1 : LineD ds) (h2 : RightD s ds) :
    ∀ k, k ≤ cs.length → LineD (duN q cs t ds k) ∧ RightD s (duN q cs t ds k)
  | 0, _ => ⟨h1, h2⟩
  | k + 1, hk => by
    obtain ⟨g1, g2⟩ := dues_ok (q := q) hcs ho ht hd hM h1 h2 k (by omega)
    have htt := wi_iff.1 ht
    have ih := duN_ok (q := q) (t := t) hcs (by omega) hd hM k (by omega)
    have hmem := gr_mem (z := zeroM) (k := k) (l := cs) (by omega)
    have hm := (hcs _ hmem).u (gr zeroM cs k).bal (by simp)
    have hb := at0_bal (ms := cs) (k := k) (by omega)
    have h3 := tot_take (bal_pos hcs) (k + 1) (by simpa using hk)
    have e : sumK (cs.map MemD.bal) (k + 1) = sumK (cs.map MemD.bal) k + (gr zeroM cs k).bal := by rw [sumK, hb]
    rw [e] at h3
    have h4 := ih.t
    rw [duN]
    split
    · exact ⟨line_owe g1 _, right_owe g2 ih.d (ho _ hmem) ht hm.1 (by show dTot _ + (gr zeroM cs k).bal ≤ _; omega)⟩
    · exact ⟨g1, g2⟩
/-! the money -/
theorem money_k {q : ParD} {cs : List MemD} {t : Int} {ds : List DueD} : ∀ k, k ≤ cs.length → dTot (duN q cs t ds k) + tot ((upN (ejF q) cs k).map MemD.bal) = dTot ds + tot (cs.map MemD.bal)
  | 0, _ => rfl
  | k + 1, hk => by
    have ih := money_k (q := q) (cs := cs) (t := t) (ds := ds) k (by omega)
    have hl := upN_len (ejF q) cs k
    have hb := at0_bal (ms := upN (ejF q) cs k) (k := k) (by omega)
    rw [upN_at _ _ (by omega)] at hb
    rw [upN, List.map_set, tot_set (by simp; omega), hb, duN]
    by_cases c : ejP q (gr zeroM cs k)
    · rw [if_pos c, oweL_tot, ejF, if_pos c]
      show _ + (gr zeroM cs k).bal + (_ + (0 - _)) = _
      omega
    · rw [if_neg c, ejF, if_neg c]
      omega
theorem set_bal (q : ParD) (l : List MemD) {n : Nat} (h : l.length = n) : (upN (setF q) l n).map MemD.bal = l.map MemD.bal := by
  rw [upN_all' h, List.map_map]
  refine List.map_congr_left fun m _ => ?_
  show (setF q m).bal = m.bal
  unfold setF
  split <;> rfl
theorem adX_len (s : StD) (q : ParD) : (adX s q).1.length = s.members.length ∧ (adX s q).2.length = s.purses.length := clN_len q (s.members, s.purses) s.members.length
/-- what is adopted fits -/
theorem ad_fits {h : PH} {v : SV} {s : StD} {q : ParD} (hs : IsSt h v s) (fe : fewB s = true) (hf : fitsS s = true) (hq : parR q = true) (okq : ParOk q) : fitsS (adS s q) = true ∧ holdsB (adS s q) = true := by
  obtain ⟨be, hr, hep, hlen, htot⟩ := fits_be hs hf
  have hm := fits_mem hf
  have hwt := par_wait hr
  have fl := few9_len (fewB_9 fe)
  have hX : BeOk (adX s q).1 (adX s q).2 := clN_ok okq (x := (s.members, s.purses)) be s.members.length (Nat.le_refl _)
  have hXt := adX_tot okq be
  obtain ⟨hXl, hXp⟩ := adX_len s q
  have hM : (adS s q).members = s.members.map (doneF q) := adMem_map s q
  have hl : (adS s q).members.length = s.members.length := by rw [hM, List.length_map]
  have hp : (adS s q).purses.length = s.purses.length := hXp
  have hac : ∀ i, acctB (adS s q) i = acctB s i := fun i => by rw [acctB, acctB, hp]
  have hpt := fun i => at0_le_tot hX.p i
  have hmt := tot_nonneg (bal_pos hX.m)
  have hX2 := tot_nonneg hX.p
  have ht := hX.t
  have hf0 := hf
  simp only [fitsS, Bool.and_eq_true] at hf
  obtain ⟨⟨⟨⟨⟨⟨⟨⟨f1, f2⟩, f3⟩, f4⟩, f5⟩, f6⟩, f7⟩, f8⟩, f9⟩ := hf
  -- purses
  have g4 : pursesB (adS s q) = true := by
    simp only [pursesB, Bool.and_eq_true, List.all_eq_true, decide_eq_true_eq] at f4 ⊢
    refine ⟨by rw [hp]; exact f4.1, fun z hz => ?_⟩
    obtain ⟨i, hi, rfl⟩ := List.mem_iff_getElem.1 hz
    have h2 : at0 (adS s q).purses i ≤ tot (adX s q).2 := hpt i
    rw [← at0_lt hi] at h2
    omega
  have g5 : membersB (adS s q) = true := by
    simp only [membersB, Bool.and_eq_true, List.all_eq_true, decide_eq_true_eq] at f5 ⊢
    refine ⟨⟨⟨by rw [hl]; exact f5.1.1.1, fun m hm1 => ?_⟩, row_entry f5.1.2⟩, row_done f5.2⟩
    rw [hM] at hm1
    obtain ⟨m0, hm0, rfl⟩ := List.mem_map.1 hm1
    have h1 := f5.1.1.2 m0 hm0
    refine ⟨done_fits hr hq h1.1, ?_⟩
    rw [hac]
    have : (doneF q m0).owner = m0.owner := by
      unfold doneF setF ejF
      split <;> split <;> rfl
    rw [this]; exact h1.2
  -- dues
  have hd0 := f6
  simp only [poolsB, Bool.and_eq_true, List.all_eq_true, decide_eq_true_eq, duesB, dueB, List.mem_range, Bool.not_eq_true'] at hd0
  have hline : LineD s.dues := line_iff.2 fun k hk => ⟨(hd0.2 k hk).1.2, (hd0.2 k hk).2⟩
  have hright : RightD s s.dues := fun x hx => by
    obtain ⟨k, hk, rfl⟩ := List.mem_iff_getElem.1 hx
    have := (hd0.2 k hk).1.1
    rwa [gr_lt hk] at this
  have hown : ∀ x ∈ (adX s q).1, acctB s x.owner = true := fun x hx => by
    have := hX.o x hx
    rw [acctB, wi_iff]
    omega
  have eD : dTot s.dues = tot (s.dues.map DueD.amt) := rfl
  have hdn := dues_ok (q := q) (t := s.ep + s.par.wait) hX.m hown (wi_iff.2 (by omega)) ⟨hs.dd, Int.le_refl _, by omega⟩ (by omega) hline hright s.members.length (by omega)
  have hdl : (adS s q).dues = duN q (adX s q).1 (s.ep + s.par.wait) s.dues s.members.length := rfl
  have g6 : poolsB (adS s q) = true := by
    simp only [poolsB, Bool.and_eq_true, List.all_eq_true, decide_eq_true_eq, duesB, dueB, List.mem_range, Bool.not_eq_true']
    refine ⟨⟨hd0.1.1, fun d hd => ?_⟩, fun k hk => ?_⟩
    · have := hd0.1.2 d hd
      rw [dep1B] at this ⊢
      rw [hac, hl]; exact this
    · rw [hdl] at hk ⊢
      have h1 := (line_iff.1 hdn.1) k hk
      refine ⟨⟨?_, h1.1⟩, h1.2⟩
      have := hdn.2 _ (grD_mem hk)
      rw [due1B] at this ⊢
      rw [hac]; exact this
  have g7 : motionsB (adS s q) = true := by
    rw [motionsB] at f7 ⊢
    simp only [hac]
    exact f7
  have g8 : marksB (adS s q) = true := by
    rw [marksB] at f8 ⊢
    rw [hl]; exact f8
  have g9 : holdsB (adS s q) = true := by
    simp only [holdsB, Bool.and_eq_true, decide_eq_true_eq] at f9 ⊢
    refine ⟨f9.1, ?_⟩
    have e1 := money_k (q := q) (cs := (adX s q).1) (t := s.ep + s.par.wait) (ds := s.dues) s.members.length (by omega)
    have e2 : sStk (adS s q) = tot ((upN (ejF q) (adX s q).1 s.members.length).map MemD.bal) := by
      show tot ((adMem s q).map MemD.bal) = _
      rw [adMem, set_bal q _ (by rw [upN_len]; exact hXl)]
    have e3 : sPur (adS s q) = tot (adX s q).2 := rfl
    have e4 : sDue (adS s q) = dTot (duN q (adX s q).1 (s.ep + s.par.wait) s.dues s.members.length) := rfl
    have e5 : sPool (adS s q) = sPool s := rfl
    have e6 := f9.2
    rw [sAll, e2, e3, e4, e5]
    rw [sAll] at e6
    have e7 : sStk s = tot (s.members.map MemD.bal) := rfl
    have e8 : sPur s = tot s.purses := rfl
    have e9 : sDue s = dTot s.dues := rfl
    show _ + s.treas + s.burn = s.gen + s.mint
    omega
  refine ⟨?_, g9⟩
  simp only [fitsS, Bool.and_eq_true]
  exact ⟨⟨⟨⟨⟨⟨⟨⟨hq, f2⟩, f3⟩, g4⟩, g5⟩, g6⟩, g7⟩, g8⟩, g9⟩
/-- who is put out has nothing any more -/
theorem ad_out {s : StD} {q : ParD} {i : Int} (hi : i ∈ adOut s q) : ∃ k : Nat, i = k ∧ k < s.members.length ∧ (gr zeroM (adS s q).members k).status = 4 ∧ (gr zeroM (adS s q).members k).bal = 0 := by
  have h1 : ∀ {n : Nat} {i : Int}, i ∈ ouN q (adX s q).1 n → ∃ k : Nat, i = k ∧ k < n ∧ ejP q (gr zeroM (adX s q).1 k) := by
    intro n
    induction n with
    | zero => intro i hi; cases hi
    | succ n ih =>
      intro i hi
      rw [ouN] at hi
      split at hi
      · rename_i c
        rcases List.mem_append.1 hi with hi | hi
        · obtain ⟨k, e1, e2, e3⟩ := ih hi
          exact ⟨k, e1, by omega, e3⟩
        · simp at hi
          exact ⟨n, hi, by omega, c⟩
      · obtain ⟨k, e1, e2, e3⟩ := ih hi
        exact ⟨k, e1, by omega, e3⟩
  obtain ⟨k, e1, e2, e3⟩ := h1 hi
  rw [adX_map, gr_map e2] at e3
  have hM : (adS s q).members = s.members.map (doneF q) := adMem_map s q
  have hd : doneF q (gr zeroM s.members k) = endM (clampM q (gr zeroM s.members k)) := by
    unfold doneF
    rw [show ejF q (clampM q (gr zeroM s.members k)) = endM _ from if_pos e3, setF, if_neg (by simp [cntM, endM])]
  refine ⟨k, e1, e2, ?_, ?_⟩ <;> rw [hM, gr_map e2, hd] <;> rfl
end Go.X

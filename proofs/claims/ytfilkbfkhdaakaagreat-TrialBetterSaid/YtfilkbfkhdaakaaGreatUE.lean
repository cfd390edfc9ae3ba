/- The contract of trial.Adopt, where nobody is put out. Conditions: a state that fits, right parameters. -/
import Derived.Test.YtfilkbfkhdaakaaGreatUD
import Derived.Test.YtfilkbfkhdaakaaGreatSM0
set_option linter.unusedVariables false
set_option linter.unusedSimpArgs false
set_option maxRecDepth 20000
namespace Go.X
open Go.RowKit Go.Proofs Go.Bl
variable {L : Own} {h : PH} {K : PK}
/-- members and purses that may be worked on -/
structure BeOk (ms : List MemD) (ps : List Int) : Prop where
  m : ∀ x ∈ ms, MemOk x
  o : ∀ x ∈ ms, 0 ≤ x.owner ∧ x.owner < ps.length
  p : ∀ i, 0 ≤ at0 ps i
  t : tot ps + tot (ms.map MemD.bal) ≤ 4611686018427387904
theorem gr_mem {α : Type} {z : α} {l : List α} {k : Nat} (hk : k < l.length) : gr z l k ∈ l := by
  rw [gr_lt hk]; exact List.getElem_mem hk
theorem at0_bal {ms : List MemD} {k : Nat} (hk : k < ms.length) : at0 (ms.map MemD.bal) k = (gr zeroM ms k).bal := by
  rw [gr_lt hk, ← at0_lt (by simpa using hk), List.getElem_map]
theorem bal_pos {ms : List MemD} (hm : ∀ x ∈ ms, MemOk x) (i : Nat) : 0 ≤ at0 (ms.map MemD.bal) i :=
  at0_map MemD.bal ms (fun x hx => ((hm x hx).u x.bal (by simp)).1) i
def clStep (q : ParD) (x : List MemD × List Int) (k : Nat) : List MemD × List Int :=
  (x.1.set k (clampM q (gr zeroM x.1 k)), x.2.set (gr zeroM x.1 k).owner.toNat (at0 x.2 (gr zeroM x.1 k).owner.toNat + ((gr zeroM x.1 k).bal - min (gr zeroM x.1 k).bal q.cap)))
def clN (q : ParD) (x : List MemD × List Int) : Nat → List MemD × List Int
  | 0 => x
  | k + 1 => clStep q (clN q x k) k
theorem clampM_ok {q : ParD} (ok : ParOk q) {m : MemD} (hm : MemOk m) : MemOk (clampM q m) := by
  have u1 := hm.u m.bal (by simp)
  have u2 := hm.u m.eff (by simp)
  have u3 := hm.u m.score (by simp)
  have n1 := hm.n m.streak (by simp)
  have n2 := hm.n m.owner (by simp)
  have n3 := hm.n m.status (by simp)
  have c1 := ok.w q.cap (by simp [wides])
  have c2 := ok.w q.scoreCap (by simp [wides])
  have c3 := ok.n q.streak (by simp [narrows])
  constructor
  · intro z hz
    simp only [clampM, trimM, List.mem_cons, List.not_mem_nil, or_false] at hz
    rcases hz with rfl | rfl | rfl <;> omega
  · intro z hz
    simp only [clampM, trimM, List.mem_cons, List.not_mem_nil, or_false] at hz
    rcases hz with rfl | rfl | rfl <;> omega
theorem clStep_len (q : ParD) (x : List MemD × List Int) (k : Nat) : (clStep q x k).1.length = x.1.length ∧ (clStep q x k).2.length = x.2.length := by
  simp [clStep]
theorem clN_len (q : ParD) (x : List MemD × List Int) : ∀ k, (clN q x k).1.length = x.1.length ∧ (clN q x k).2.length = x.2.length
  | 0 => ⟨rfl, rfl⟩
  | k + 1 => by
    have h1 := clN_len q x k
    have h2 := clStep_len q (clN q x k) k
    exact ⟨h2.1.trans h1.1, h2.2.trans h1.2⟩
theorem clStep_ok {q : ParD} (ok : ParOk q) {x : List MemD × List Int} (hx : BeOk x.1 x.2) {k : Nat} (hk : k < x.1.length) : BeOk (clStep q x k).1 (clStep q x k).2 := by
  obtain ⟨m, hm⟩ : ∃ m, m = gr zeroM x.1 k := ⟨_, rfl⟩
  have hmem : m ∈ x.1 := hm ▸ gr_mem hk
  have ho := hx.o m hmem
  have ub := (hx.m m hmem).u m.bal (by simp)
  have hc := ok.w q.cap (by simp [wides])
  have hb : at0 (x.1.map MemD.bal) k = m.bal := hm ▸ at0_bal hk
  have hj : m.owner.toNat < x.2.length := by omega
  rw [clStep, ← hm]
  refine ⟨fun y hy => ?_, fun y hy => ?_, fun i => ?_, ?_⟩
  · rcases List.mem_or_eq_of_mem_set hy with hy | rfl
    · exact hx.m y hy
    · exact clampM_ok ok (hx.m m hmem)
  · simp only [List.length_set]
    rcases List.mem_or_eq_of_mem_set hy with hy | rfl
    · exact hx.o y hy
    · exact ho
  · have h0 := hx.p i
    have h1 := hx.p m.owner.toNat
    simp only
    rw [at0_set _ _ _ _ hj]
    split <;> omega
  · have h0 := hx.t
    simp only
    rw [List.map_set, tot_set hj, tot_set (by simpa using hk), hb]
    have : (clampM q m).bal = min m.bal q.cap := rfl
    rw [this]
    omega
theorem clN_ok {q : ParD} (ok : ParOk q) {x : List MemD × List Int} (hx : BeOk x.1 x.2) : ∀ k, k ≤ x.1.length → BeOk (clN q x k).1 (clN q x k).2
  | 0, _ => hx
  | k + 1, hk => clStep_ok ok (clN_ok ok hx k (by omega)) (by rw [(clN_len q x k).1]; omega)
theorem cl_room {q : ParD} (ok : ParOk q) {x : List MemD × List Int} (hx : BeOk x.1 x.2) {k : Nat} (hk : k < x.1.length) : at0 x.2 (gr zeroM x.1 k).owner.toNat + ((gr zeroM x.1 k).bal - min (gr zeroM x.1 k).bal q.cap) ≤ 4611686018427387904 := by
  have h1 := at0_le_tot hx.p (gr zeroM x.1 k).owner.toNat
  have h2 := at0_le_tot (bal_pos hx.m) k
  rw [at0_bal hk] at h2
  have h3 := hx.t
  have ub := (hx.m _ (gr_mem (z := zeroM) hk)).u (gr zeroM x.1 k).bal (by simp)
  have hc := ok.w q.cap (by simp [wides])
  omega
abbrev cntM (m : MemD) : Prop := m.status = 2 ∨ m.status = 3
/-- the first members changed -/
def upN (f : MemD → MemD) (l : List MemD) : Nat → List MemD
  | 0 => l
  | k + 1 => (upN f l k).set k (f (gr zeroM l k))
theorem upN_len (f : MemD → MemD) (l : List MemD) : ∀ k, (upN f l k).length = l.length
  | 0 => rfl
  | k + 1 => by rw [upN, List.length_set]; exact upN_len f l k
theorem upN_gr (f : MemD → MemD) (l : List MemD) : ∀ k, k ≤ l.length → ∀ j, gr zeroM (upN f l k) j = if j < k then f (gr zeroM l j) else gr zeroM l j
  | 0, _, j => by simp [upN]
  | k + 1, hk, j => by
    have ih := upN_gr f l k (by omega) j
    have hl := upN_len f l k
    have hl1 := upN_len f l (k + 1)
    by_cases e : j = k
    · subst e
      rw [gr_lt (by omega), if_pos (by omega)]
      simp only [upN, List.getElem_set_self]
    · by_cases hj : j < l.length
      · rw [gr_lt (by omega)] at ih ⊢
        simp only [upN]
        rw [List.getElem_set_ne (Ne.symm e), ih]
        by_cases c : j < k
        · rw [if_pos c, if_pos (by omega)]
        · rw [if_neg c, if_neg (by omega)]
      · have h1 : gr zeroM (upN f l (k + 1)) j = gr zeroM l j := by
          unfold gr
          rw [List.getD_eq_getElem?_getD, List.getD_eq_getElem?_getD, List.getElem?_eq_none (by omega), List.getElem?_eq_none (by omega)]
        rw [h1, if_neg (by omega)]
theorem upN_at (f : MemD → MemD) (l : List MemD) {k : Nat} (hk : k < l.length) : gr zeroM (upN f l k) k = gr zeroM l k := by
  rw [upN_gr f l k (by omega), if_neg (by omega)]
theorem upN_same (f : MemD → MemD) (l : List MemD) {k : Nat} (hk : k < l.length) (hf : f (gr zeroM l k) = gr zeroM l k) : upN f l (k + 1) = upN f l k := by
  have hl := upN_len f l k
  have h1 := upN_at f l hk
  rw [gr_lt (by omega)] at h1
  rw [upN, hf, ← h1, List.set_getElem_self]
theorem upN_all (f : MemD → MemD) (l : List MemD) : upN f l l.length = l.map f := by
  refine List.ext_getElem (by rw [upN_len, List.length_map]) fun j h1 h2 => ?_
  have hj : j < l.length := by rwa [upN_len] at h1
  rw [← gr_lt (z := zeroM) h1, upN_gr f l _ (Nat.le_refl _), if_pos hj, gr_lt hj, List.getElem_map]
theorem upN_ok {f : MemD → MemD} {l : List MemD} (P : MemD → Prop) (hf : ∀ x, P x → P (f x)) (hl : ∀ x ∈ l, P x) : ∀ k, k ≤ l.length → ∀ x ∈ upN f l k, P x
  | 0, _ => hl
  | k + 1, hk => fun x hx => by
    rw [upN] at hx
    rcases List.mem_or_eq_of_mem_set hx with hx | rfl
    · exact upN_ok P hf hl k (by omega) x hx
    · exact hf _ (hl _ (gr_mem (by omega)))
theorem clN_up (q : ParD) (x : List MemD × List Int) : ∀ k, k ≤ x.1.length → (clN q x k).1 = upN (clampM q) x.1 k
  | 0, _ => rfl
  | k + 1, hk => by
    have ih := clN_up q x k (by omega)
    show (clN q x k).1.set k (clampM q (gr zeroM (clN q x k).1 k)) = _
    rw [ih, upN_at _ _ (by omega)]; rfl
def setF (q : ParD) (m : MemD) : MemD := if cntM m then settleM q m else m
/-- who is put out -/
abbrev ejP (q : ParD) (m : MemD) : Prop := cntM m ∧ m.bal ≤ q.floor
def endM (m : MemD) : MemD := ⟨0, 0, m.score, 0, m.owner, 4⟩
def ejF (q : ParD) (m : MemD) : MemD := if ejP q m then endM m else m
theorem endM_ok {m : MemD} (hm : MemOk m) : MemOk (endM m) := by
  have u3 := hm.u m.score (by simp)
  have n2 := hm.n m.owner (by simp)
  constructor
  · intro z hz
    simp only [endM, List.mem_cons, List.not_mem_nil, or_false] at hz
    rcases hz with rfl | rfl | rfl <;> omega
  · intro z hz
    simp only [endM, List.mem_cons, List.not_mem_nil, or_false] at hz
    rcases hz with rfl | rfl | rfl <;> omega
theorem settleM_ok {q : ParD} (ok : ParOk q) (hr : parR q = true) {m : MemD} (hm : MemOk m) : MemOk (settleM q m) := by
  have u1 := hm.u m.bal (by simp)
  have u2 := hm.u m.eff (by simp)
  have u3 := hm.u m.score (by simp)
  have n1 := hm.n m.streak (by simp)
  have n2 := hm.n m.owner (by simp)
  have n3 := hm.n m.status (by simp)
  have hw := wholeP_ok (inc_pos hr) ok u1
  have ue : 0 ≤ (settleM q m).eff ∧ (settleM q m).eff ≤ 18446744073709551615 := by
    unfold settleM
    simp only
    split
    · unfold nextP; split
      · exact hw
      · exact u2
    · exact hw
  constructor
  · intro z hz
    simp only [List.mem_cons, List.not_mem_nil, or_false] at hz
    rcases hz with rfl | rfl | rfl
    · exact u1
    · exact ue
    · exact u3
  · intro z hz
    simp only [settleM, List.mem_cons, List.not_mem_nil, or_false] at hz
    rcases hz with rfl | rfl | rfl <;> omega
theorem setF_ok {q : ParD} (ok : ParOk q) (hr : parR q = true) {m : MemD} (hm : MemOk m) : MemOk (setF q m) := by
  unfold setF; split
  · exact settleM_ok ok hr hm
  · exact hm
theorem ejF_ok {q : ParD} {m : MemD} (hm : MemOk m) : MemOk (ejF q m) := by
  unfold ejF; split
  · exact endM_ok hm
  · exact hm

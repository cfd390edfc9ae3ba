/- Part of the proof of a statement about the given program: lemmas and contracts. Conditions: as each says. -/
import Derived.Test.YtkmojeioedjfkaaGreatQ09
import Derived.Test.YtkmojeioedjfkaaGreatQ15
/- Lists of deeds in known cells, and slices of deeds that a call makes. Conditions: as each lemma says. -/
set_option linter.unusedVariables false
set_option linter.unusedSimpArgs false
namespace Go.X
open Go.RowKit Go.Proofs Go.Bl
theorem flat_get {α β : Type} {f : α → List β} {k : Nat} (hf : ∀ a, (f a).length = k) : ∀ (l : List α) (i m : Nat), m < k → (l.flatMap f)[i * k + m]? = (l[i]?).bind fun a => (f a)[m]?
  | [], i, m, _ => by simp
  | a :: l, 0, m, hm => by
    rw [List.flatMap_cons, List.getElem?_append_left (by rw [hf]; omega)]
    simp
  | a :: l, i + 1, m, hm => by
    have e : (i + 1) * k + m = k + (i * k + m) := by rw [Nat.add_mul]; omega
    rw [List.flatMap_cons, List.getElem?_append_right (by rw [hf, e]; omega), hf, e, Nat.add_sub_cancel_left, flat_get hf l i m hm]
    simp
theorem flat_len {α β : Type} {f : α → List β} {k : Nat} (hf : ∀ a, (f a).length = k) : ∀ (l : List α), (l.flatMap f).length = l.length * k
  | [] => by simp
  | a :: l => by rw [List.flatMap_cons, List.length_append, hf, flat_len hf l, List.length_cons, Nat.add_mul]; omega
abbrev QD := Value × DeedD
def zq : QD := (.slice none 0 0, zeroD)
def gq (l : List QD) (i : Nat) : QD := l.getD i zq
def qC (q : QD) : List Value := deedC q.2 q.1
def cellsL (l : List QD) : List Value := l.flatMap qC
def dl (l : List QD) : List DeedD := l.map Prod.snd
theorem qC_len (q : QD) : (qC q).length = 34 := rfl
theorem cellsL_len (l : List QD) : (cellsL l).length = l.length * 34 := flat_len qC_len l
theorem cellsL_app (a b : List QD) : cellsL (a ++ b) = cellsL a ++ cellsL b := by simp [cellsL]
theorem cellsL_one (q : QD) : cellsL [q] = qC q := by simp [cellsL]
theorem gq_lt {l : List QD} {i : Nat} (hi : i < l.length) : gq l i = l[i] := by simp [gq, List.getD, hi]
theorem dl_len (l : List QD) : (dl l).length = l.length := by simp [dl]
theorem dl_app (a b : List QD) : dl (a ++ b) = dl a ++ dl b := by simp [dl]
/-- slice value v reads as the deeds l -/
structure Deeds (h : PH) (v : Value) (l : List QD) : Prop where
  s : Sl h v l.length 34 (cellsL l)
  d : ∀ q ∈ l, IsDeed h q.1 q.2
theorem Deeds.up {h h' : PH} (le : PH.le h h') {v : Value} {l : List QD} (hd : Deeds h v l) : Deeds h' v l := ⟨hd.s.up le, fun q hq => (hd.d q hq).up le⟩
theorem Deeds.at {h : PH} {v : Value} {l : List QD} (hd : Deeds h v l) {i : Nat} (hi : i < l.length) : IsDeed h (gq l i).1 (gq l i).2 := by
  rw [gq_lt hi]; exact hd.d _ (List.getElem_mem hi)
theorem Deeds.open {h : PH} {v : Value} {l : List QD} (hd : Deeds h v l) :
    ∃ a cap, v = .slice a l.length cap ∧ l.length ≤ cap ∧ l.length ≤ 9223372036854775807 ∧ (a = none → cap = 0) ∧ Deeds h (.slice a l.length cap) l := by
  obtain ⟨h1, a, cap, rfl, h3, h4, h4', h5, h6⟩ := hd.s
  exact ⟨a, cap, rfl, h3, h4', h5, hd⟩
theorem Deeds.nil (h : PH) : Deeds h (.slice none 0 0) [] := ⟨⟨rfl, none, 0, rfl, Nat.le_refl _, by decide, by decide, fun _ => rfl, fun j c hj => by simp [cellsL] at hj⟩, fun q hq => by cases hq⟩
theorem Deeds.cell {h : PH} {a : Option Addr} {n c : Nat} {l : List QD} (hd : Deeds h (.slice a n c) l) {i m : Nat} (hi : i < l.length) (hm : m < 34) : elemCell h a (i * 34 + m) = (qC (gq l i))[m]? := by
  obtain ⟨h1, a', cap, h2, h3, h4, h4', h5, h6⟩ := hd.s
  injection h2 with e1 e2 e3
  subst e1
  have hg := flat_get qC_len l i m hm
  rw [List.getElem?_eq_getElem hi, Option.bind_some, ← gq_lt hi] at hg
  obtain ⟨u, hu⟩ : ∃ u, (qC (gq l i))[m]? = some u := ⟨_, List.getElem?_eq_getElem (by rw [qC_len]; exact hm)⟩
  rw [hu] at hg ⊢
  exact h6 _ _ hg
/-- by a known list of deeds: its indices and its loads -/
theorem idxD {h : PH} {a : Option Addr} {n c0 : Nat} {l : List QD} (hd : Deeds h (.slice a n c0) l) :
    (∀ (m c e by' : Nat) (k : IntKind) (j : Int) (K : Value → Prop) (t : Tok K), 0 ≤ j → j < (l.length : Int) → m = l.length → xIA (.sl e 34 by') (.slice a m c) (.int k j) K t = K (.pointer (elem a (j.toNat * 34)))) ∧
    (∀ (j : Nat) (K : Option Addr → Prop) (t : Tok K), j < l.length → xPtr (.pointer (elem a (j * 34))) K t = K (elem a (j * 34))) ∧
    (∀ (L : Own) (j : Nat) (z : List Value) (by' : Nat) (K : Value → Prop) (t : Tok K), j < l.length → xLd ⟨34, true, z, by'⟩ L h (elem a (j * 34)) K t = K (deedV (gq l j).2 (gq l j).1)) ∧
    (∀ (j o : Nat) (K : Value → Prop) (t : Tok K), j < l.length → xAddO (.pointer (elem a (j * 34))) o K t = K (.pointer (elem a (j * 34 + o)))) ∧
    (∀ (j o : Nat) (K : Option Addr → Prop) (t : Tok K), j < l.length → xPtr (.pointer (elem a (j * 34 + o))) K t = K (elem a (j * 34 + o))) := by
  have hne : ∀ j, j < l.length → a ≠ none := fun j hj e => by
    have := hd.cell hj (m := 0) (by decide)
    rw [e] at this
    simp [elemCell, qC] at this
  refine ⟨fun m c e by' k j K t h0 h1 hm => ?_, fun j K t hj => xPtr_elem (hne j hj) K, fun L j z by' K t hj => ?_, fun j o K t hj => xAddO_elem (hne j hj) _ _ K, fun j o K t hj => xPtr_elem (hne j hj) K⟩
  · subst hm
    exact xIA_elem (hne j.toNat (by omega)) e 34 by' _ c k j h0 h1 K t
  · rw [xLd_agg, xCells_elem 34 0 (qC (gq l j)) _ (qC_len _) fun m hm => by rw [Nat.zero_add]; exact hd.cell hj hm]
    rfl
/-- an element's field -/
theorem Deeds.fld {h : PH} {a : Option Addr} {n c0 : Nat} {l : List QD} (hd : Deeds h (.slice a n c0) l) {j o : Nat} (hj : j < l.length) {v : Value} (ho : (qC (gq l j))[o]? = some v) (L : Own) (K : Value → Prop) (t : Tok K) :
    xCell L h (elem a (j * 34 + o)) 0 K t = K v := by
  have hm : o < 34 := by
    have := (List.getElem?_eq_some_iff.1 ho).1
    rwa [qC_len] at this
  exact xCell_elem (by rw [Nat.add_zero, hd.cell hj hm, ho]) K
/-- what a call's own slice of deeds comes to when it is known -/
theorem Deeds.pub {h : PH} {o : Option (Nat × Nat)} {l : List QD} (sl : Sl h (ovs o l.length) l.length 34 (cellsL l)) (hd : ∀ q ∈ l, IsDeed h q.1 q.2) : Deeds h (ovs o l.length) l := ⟨sl, hd⟩
theorem qC_one (q : QD) (hb : q.1.oneCell' = true) : ∀ u ∈ qC q, u.oneCell' = true := by
  intro u hu
  simp only [qC, List.mem_cons, List.not_mem_nil, or_false] at hu
  rcases hu with rfl | rfl | rfl | rfl | rfl | rfl | rfl | rfl | rfl | rfl | rfl | rfl | rfl | rfl | rfl | rfl | rfl | rfl | rfl | rfl | rfl | rfl | rfl | rfl | rfl | rfl | rfl | rfl | rfl | rfl | rfl | rfl | rfl | rfl <;> first | rfl | exact hb
end Go.X

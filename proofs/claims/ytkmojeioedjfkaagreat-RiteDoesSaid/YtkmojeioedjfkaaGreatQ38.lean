/- Lemmas and contracts for a statement about the given program. Conditions: as each says. -/
import Derived.Test.YtkmojeioedjfkaaGreatQ09
import Derived.Test.YtkmojeioedjfkaaGreatQ15
set_option linter.unusedVariables false
set_option linter.unusedSimpArgs false
set_option maxHeartbeats 12800000
set_option maxRecDepth 20000
namespace Go.X
open Go.RowKit Go.Proofs Go.Bl
theorem flat_get {α β : Type} {f : α → List β} {k : Nat} (hf : ∀ a, (f a).length = k) : ∀ (l : List α) (i m : Nat), m < k → (l.flatMap f)[i * k + m]? = (l[i]?).bind fun a => (f a)[m]?
 | [], i, m, _ => by simp
 | a :: l, 0, m, hm => by
  rw [List.flatMap_cons, List.getElem?_append_left (by rw [hf]; omega)]
  simp
 | a :: l, i + 1, m, hm => by
  have e : (i + 1) * k + m = k + (i * k + m) := by rw [Nat.add_mul]; omega
  rw [List.flatMap_cons, List.getElem?_append_right (by rw [hf, e]; omega), hf, e, Nat.add_sub_cancel_left, flat_get hf l i m hm]
  simp
theorem flat_len {α β : Type} {f : α → List β} {k : Nat} (hf : ∀ a, (f a).length = k) : ∀ (l : List α), (l.flatMap f).length = l.length * k
 | [] => by simp
 | a :: l => by rw [List.flatMap_cons, List.length_append, hf, flat_len hf l, List.length_cons, Nat.add_mul]; omega
abbrev QD := Value × DeedD
def zq : QD := (.slice none 0 0, zeroD)
def gq (l : List QD) (i : Nat) : QD := l.getD i zq
def qC (q : QD) : List Value := deedC q.2 q.1
def cellsL (l : List QD) : List Value := l.flatMap qC
def dl (l : List QD) : List DeedD := l.map Prod.snd
theorem qC_len (q : QD) : (qC q).length = 34 := rfl
theorem cellsL_len (l : List QD) : (cellsL l).length = l.length * 34 := flat_len qC_len l
theorem cellsL_app (a b : List QD) : cellsL (a ++ b) = cellsL a ++ cellsL b := by simp [cellsL]
theorem cellsL_one (q : QD) : cellsL [q] = qC q := by simp [cellsL]
theorem gq_lt {l : List QD} {i : Nat} (hi : i < l.length) : gq l i = l[i] := by simp [gq, List.getD, hi]
theorem dl_len (l : List QD) : (dl l).length = l.length := by simp [dl]
theorem dl_app (a b : List QD) : dl (a ++ b) = dl a ++ dl b := by simp [dl]
structure Deeds (h : PH) (v : Value) (l : List QD) : Prop where
 s : Sl h v l.length 34 (cellsL l)
 d : ∀ q ∈ l, IsDeed h q.1 q.2
theorem Deeds.up {h h' : PH} (le : PH.le h h') {v : Value} {l : List QD} (hd : Deeds h v l) : Deeds h' v l := ⟨hd.s.up le, fun q hq => (hd.d q hq).up le⟩
theorem Deeds.at {h : PH} {v : Value} {l : List QD} (hd : Deeds h v l) {i : Nat} (hi : i < l.length) : IsDeed h (gq l i).1 (gq l i).2 := by
 rw [gq_lt hi]; exact hd.d _ (List.getElem_mem hi)
theorem Deeds.open {h : PH} {v : Value} {l : List QD} (hd : Deeds h v l) :
  ∃ a cap, v = .slice a l.length cap ∧ l.length ≤ cap ∧ l.length ≤ 9223372036854775807 ∧ (a = none → cap = 0) ∧ Deeds h (.slice a l.length cap) l := by
 obtain ⟨h1, a, cap, rfl, h3, h4, h4', h5, h6⟩ := hd.s
 exact ⟨a, cap, rfl, h3, h4', h5, hd⟩
theorem Deeds.nil (h : PH) : Deeds h (.slice none 0 0) [] := ⟨⟨rfl, none, 0, rfl, Nat.le_refl _, by decide, by decide, fun _ => rfl, fun j c hj => by simp [cellsL] at hj⟩, fun q hq => by cases hq⟩
theorem Deeds.cell {h : PH} {a : Option Addr} {n c : Nat} {l : List QD} (hd : Deeds h (.slice a n c) l) {i m : Nat} (hi : i < l.length) (hm : m < 34) : elemCell h a (i * 34 + m) = (qC (gq l i))[m]? := by
 obtain ⟨h1, a', cap, h2, h3, h4, h4', h5, h6⟩ := hd.s
 injection h2 with e1 e2 e3
 subst e1
 have hg := flat_get qC_len l i m hm
 rw [List.getElem?_eq_getElem hi, Option.bind_some, ← gq_lt hi] at hg
 obtain ⟨u, hu⟩ : ∃ u, (qC (gq l i))[m]? = some u := ⟨_, List.getElem?_eq_getElem (by rw [qC_len]; exact hm)⟩
 rw [hu] at hg ⊢
 exact h6 _ _ hg
theorem idxD {h : PH} {a : Option Addr} {n c0 : Nat} {l : List QD} (hd : Deeds h (.slice a n c0) l) :
  (∀ (m c e by' : Nat) (k : IntKind) (j : Int) (K : Value → Prop) (t : Tok K), 0 ≤ j → j < (l.length : Int) → m = l.length → xIA (.sl e 34 by') (.slice a m c) (.int k j) K t = K (.pointer (elem a (j.toNat * 34)))) ∧
  (∀ (j : Nat) (K : Option Addr → Prop) (t : Tok K), j < l.length → xPtr (.pointer (elem a (j * 34))) K t = K (elem a (j * 34))) ∧
  (∀ (L : Own) (j : Nat) (z : List Value) (by' : Nat) (K : Value → Prop) (t : Tok K), j < l.length → xLd ⟨34, true, z, by'⟩ L h (elem a (j * 34)) K t = K (deedV (gq l j).2 (gq l j).1)) ∧
  (∀ (j o : Nat) (K : Value → Prop) (t : Tok K), j < l.length → xAddO (.pointer (elem a (j * 34))) o K t = K (.pointer (elem a (j * 34 + o)))) ∧
  (∀ (j o : Nat) (K : Option Addr → Prop) (t : Tok K), j < l.length → xPtr (.pointer (elem a (j * 34 + o))) K t = K (elem a (j * 34 + o))) := by
 have hne : ∀ j, j < l.length → a ≠ none := fun j hj e => by
  have := hd.cell hj (m := 0) (by decide)
  rw [e] at this
  simp [elemCell, qC] at this
 refine ⟨fun m c e by' k j K t h0 h1 hm => ?_, fun j K t hj => xPtr_elem (hne j hj) K, fun L j z by' K t hj => ?_, fun j o K t hj => xAddO_elem (hne j hj) _ _ K, fun j o K t hj => xPtr_elem (hne j hj) K⟩
 ·subst hm
  exact xIA_elem (hne j.toNat (by omega)) e 34 by' _ c k j h0 h1 K t
 ·rw [xLd_agg, xCells_elem 34 0 (qC (gq l j)) _ (qC_len _) fun m hm => by rw [Nat.zero_add]; exact hd.cell hj hm]
  rfl
theorem Deeds.fld {h : PH} {a : Option Addr} {n c0 : Nat} {l : List QD} (hd : Deeds h (.slice a n c0) l) {j o : Nat} (hj : j < l.length) {v : Value} (ho : (qC (gq l j))[o]? = some v) (L : Own) (K : Value → Prop) (t : Tok K) :
  xCell L h (elem a (j * 34 + o)) 0 K t = K v := by
 have hm : o < 34 := by
  have := (List.getElem?_eq_some_iff.1 ho).1
  rwa [qC_len] at this
 exact xCell_elem (by rw [Nat.add_zero, hd.cell hj hm, ho]) K
theorem Deeds.pub {h : PH} {o : Option (Nat × Nat)} {l : List QD} (sl : Sl h (ovs o l.length) l.length 34 (cellsL l)) (hd : ∀ q ∈ l, IsDeed h q.1 q.2) : Deeds h (ovs o l.length) l := ⟨sl, hd⟩
theorem qC_one (q : QD) (hb : q.1.oneCell' = true) : ∀ u ∈ qC q, u.oneCell' = true := by
 intro u hu
 simp only [qC, List.mem_cons, List.not_mem_nil, or_false] at hu
 rcases hu with rfl | rfl | rfl | rfl | rfl | rfl | rfl | rfl | rfl | rfl | rfl | rfl | rfl | rfl | rfl | rfl | rfl | rfl | rfl | rfl | rfl | rfl | rfl | rfl | rfl | rfl | rfl | rfl | rfl | rfl | rfl | rfl | rfl | rfl <;> first | rfl | exact hb
open Go.RowKit Go.Bl
theorem rAll_stop {xs : List Int} {most : Int} {s : Nat × Int} (h : s.2 ≠ 0) : ∀ k, (rAll xs most k s).2 = s
 | 0 => rfl
 | k + 1 => by simp only [rAll, rNum_stop h]; exact rAll_stop h k
theorem rAll_sound {xs : List Int} {most : Int} (hx : ∀ z ∈ xs, 0 ≤ z ∧ z ≤ 255) : ∀ (m : Nat) (s : Nat × Int) (st : List Int) (k : Nat), s.1 ≤ xs.length → rAll xs most m s = (st, (k, 0)) →
  s.2 = 0 ∧ xs.drop s.1 = flatN st ++ xs.drop k ∧ k ≤ xs.length
 | 0, s, st, k, hs, h => by
  simp only [rAll] at h
  injection h with h1 h2
  subst h1
  subst h2
  exact ⟨rfl, by simp [flatN], hs⟩
 | m + 1, s, st, k, hs, h => by
  simp only [rAll] at h
  injection h with h1 h2
  subst h1
  cases hr : rNum xs s most with
  | mk v p =>
   obtain ⟨j, e⟩ := p
   rw [hr] at h2
   simp only at h2 ⊢
   by_cases he : e = 0
   ·subst he
    obtain ⟨h0, n, rfl, hn, _, hd, _, hj⟩ := rNum_sound hx hr
    obtain ⟨_, b4, b5⟩ := rAll_sound hx m (j, 0) (rAll xs most m (j, 0)).1 k (hj hs) (Prod.ext rfl h2)
    refine ⟨h0, ?_, b5⟩
    simp only [flatN, Int.toNat_natCast, List.append_assoc]
    simp only at b4
    rw [hd, b4]
   ·rw [rAll_stop (by simpa using he)] at h2
    injection h2 with _ h2
    exact absurd h2 he
theorem rPar_sound {xs : List Int} {s : Nat × Int} {k : Nat} (hx : ∀ z ∈ xs, 0 ≤ z ∧ z ≤ 255) (hs : s.1 ≤ xs.length) (h : (rPar xs s).2 = (k, 0)) : s.2 = 0 ∧ xs.drop s.1 = encP (rPar xs s).1 ++ xs.drop k ∧ k ≤ xs.length := by
 simp only [rPar] at h ⊢
 have hp := rAll_pos hx (most := 18446744073709551615) (by decide) 14 s hs
 obtain ⟨a1, a2, a3⟩ := rAll_sound hx 10 (rAll xs 18446744073709551615 14 s).2 _ k hp.1 (Prod.ext rfl h)
 obtain ⟨j, e⟩ : ∃ j, (rAll xs 18446744073709551615 14 s).2 = (j, 0) := ⟨(rAll xs 18446744073709551615 14 s).2.1, Prod.ext rfl a1⟩
 obtain ⟨b1, b2, b3⟩ := rAll_sound hx 14 s _ j hs (Prod.ext rfl e)
 refine ⟨b1, ?_, a3⟩
 rw [encP, wides_parL _ _ (rAll_len _ _ _ _), narrows_parL _ _ (rAll_len _ _ _ _), flatN_append, List.append_assoc, ← a2, b2, e]
theorem must_z {ok : Bool} {n e t : Int} (hn : n ≠ 0) (ht : t = 0) (he : e = 0) (h : must ok n e t = 0) : ok = true := by
 cases ok with
 | true => rfl
 | false => simp [must, he, ht] at h; exact absurd h hn
theorem rdFields_ok {xs : List Int} {d : DeedD} {s : Nat × Int} {e : Int} (hk : ¬ d.kind = 5) : rdFields xs d s e = rdAmt xs (rdBody xs { d with acct := (rNum xs s 63).1 } (rNum xs s 63).2 e) := by
 simp [rdFields, hk]
theorem num_got {xs : List Int} {s : Nat × Int} {most z : Int} {t : Nat × Int} (hz : ∀ z ∈ xs, 0 ≤ z ∧ z ≤ 255) (hs : s.1 ≤ xs.length) (e : rNum xs s most = (z, t)) (h : t.2 = 0) :
  s.2 = 0 ∧ 0 ≤ z ∧ z ≤ most ∧ xs.drop s.1 = formN z.toNat ++ xs.drop t.1 ∧ t.1 ≤ xs.length := by
 obtain ⟨k, q⟩ := t
 simp only at h
 subst h
 obtain ⟨h0, n, rfl, hn, _, hd, _, hk⟩ := rNum_sound hz e
 exact ⟨h0, by omega, hn, by simpa using hd, hk hs⟩
theorem amt_got {xs : List Int} (hz : ∀ z ∈ xs, 0 ≤ z ∧ z ≤ 255) {q : DeedD × (Nat × Int) × Int} (hs : q.2.1.1 ≤ xs.length) {d : DeedD} {k : Nat} (h : rdAmt xs q = (d, (k, 0), 0)) :
  q.2.2 = 0 ∧ q.2.1.2 = 0 ∧ ((paidD q.1 = false ∧ d = q.1 ∧ q.2.1 = (k, 0)) ∨ (paidD q.1 = true ∧ ∃ a : Int, 0 < a ∧ a ≤ 4611686018427387904 ∧ d = { q.1 with amt := a } ∧ xs.drop q.2.1.1 = formN a.toNat ++ xs.drop k ∧ k ≤ xs.length)) := by
 unfold rdAmt at h
 split at h
 ·rename_i c
  injection h with h1 h2
  injection h2 with h2 h3
  obtain ⟨_, b1, b2, b3, b4⟩ := num_got hz hs (Prod.ext rfl h2 : rNum xs q.2.1 4611686018427387904 = ((rNum xs q.2.1 4611686018427387904).1, (k, 0))) rfl
  have hp := must_z (by decide) (by rw [h2]) c.1 h3
  exact ⟨c.1, c.2.1, Or.inr ⟨c.2.2, _, of_decide_eq_true hp, b2, h1.symm, b3, b4⟩⟩
 ·rename_i c
  subst h
  refine ⟨rfl, rfl, Or.inl ⟨?_, rfl, rfl⟩⟩
  cases hp : paidD d with
  | false => rfl
  | true => exact absurd ⟨rfl, rfl, hp⟩ c
theorem sameD_self (d : DeedD) : sameD d d = true := by simp [sameD]
theorem right_of {d : DeedD} (hk : 1 ≤ d.kind ∧ d.kind ≤ 7) (hb : bareD d = d) (h1 : 0 ≤ d.acct ∧ d.acct ≤ 63) (h2 : 0 ≤ d.to ∧ d.to ≤ 63) (h3 : 0 ≤ d.mem ∧ d.mem ≤ 127) (h4 : 0 ≤ d.mot ∧ d.mot ≤ 31)
  (hp : paidD d = decide (0 < d.amt)) (ha : d.amt ≤ 4611686018427387904) (he : 0 ≤ d.ep ∧ d.ep ≤ 1073741824) (hl : (d.bits.length : Int) ≤ 32) (h6 : d.kind = 6 → (1 ≤ d.what ∧ d.what ≤ 4) ∧ (d.what = 1 → parR d.par = true)) : rightD d = true := by
 unfold rightD
 rw [hb, sameD_self, hp, wi_iff.2 hk, wi_iff.2 h1, wi_iff.2 h2, wi_iff.2 h3, wi_iff.2 h4, wi_iff.2 he, decide_eq_true ha, decide_eq_true hl]
 by_cases k6 : d.kind = 6
 ·obtain ⟨g1, g2⟩ := h6 k6
  rw [wi_iff.2 g1]
  by_cases w1 : d.what = 1
  ·simp [g2 w1]
  ·simp [w1]
 ·simp [k6]
def SoundAt (xs : List Int) (s : Nat × Int) (z : Int) (d : DeedD) (k : Nat) : Prop :=
 s.2 = 0 ∧ k ≤ xs.length ∧ rightD d = true ∧ DeedOk d ∧ (∀ y ∈ d.bits, 0 ≤ y ∧ y ≤ 255) ∧ ∃ b, encD d = formN z.toNat ++ b ∧ xs.drop s.1 = b ++ xs.drop k
theorem sound1 {xs : List Int} (hz : ∀ z ∈ xs, 0 ≤ z ∧ z ≤ 255) {s : Nat × Int} (hs : s.1 ≤ xs.length) {d : DeedD} {k : Nat} (h : rdFields xs ({ zeroD with kind := 1 }) s 0 = (d, (k, 0), 0)) : SoundAt xs s 1 d k := by
 rw [rdFields_ok (by simp)] at h
 have p0 := (rNum_pos xs s 63 hz hs (by decide)).1
 obtain ⟨a, t0, e0'⟩ : ∃ a t, rNum xs s 63 = (a, t) := ⟨_, _, rfl⟩
 rw [e0'] at h p0
 simp only at h p0
 have p1 := (rNum_pos xs t0 63 hz p0 (by decide)).1
 obtain ⟨v1, t1, e1'⟩ : ∃ a t, rNum xs t0 63 = (a, t) := ⟨_, _, rfl⟩
 rw [e1'] at p1; simp only at p1
 rw [show rdBody xs ({ ({ zeroD with kind := 1 } : DeedD) with acct := a }) t0 0 = ({ zeroD with kind := 1, acct := a, to := v1 }, t1, 0) from by simp [rdBody, e1']] at h
 obtain ⟨_, g0, g⟩ := amt_got hz p1 h
 rcases g with ⟨g, _⟩ | ⟨_, c, m1, m2, rfl, m3, m4⟩
 ·simp [paidD, wi, zeroD] at g
 simp only at g0
 obtain ⟨z1, a1, b1, c1, d1⟩ := num_got hz p0 e1' g0
 obtain ⟨e0, a0, b0, c0', d0⟩ := num_got hz hs e0' z1
 exact ⟨e0, m4, right_of (by simp only [zeroD]; omega) (by simp [bareD, zeroD]) (by simp only [zeroD]; omega) (by simp only [zeroD]; omega) (by simp only [zeroD]; omega) (by simp only [zeroD]; omega) (by simp [paidD, wi, zeroD]; omega) (by simp only [zeroD]; omega) (by simp only [zeroD]; omega) (by simp [zeroD]) (fun h => by simp at h), ⟨fun y hy => by simp only [zeroD, List.mem_cons, List.not_mem_nil, or_false] at hy; omega, ⟨by simp only [zeroD]; omega, by simp only [zeroD]; omega⟩, zeroP_ok⟩, by simp [zeroD], formN a.toNat ++ (formN v1.toNat ++ (formN c.toNat)), by simp [encD, paidD, wi, zeroD], by rw [c0', c1, m3]; simp⟩
theorem sound2 {xs : List Int} (hz : ∀ z ∈ xs, 0 ≤ z ∧ z ≤ 255) {s : Nat × Int} (hs : s.1 ≤ xs.length) {d : DeedD} {k : Nat} (h : rdFields xs ({ zeroD with kind := 2 }) s 0 = (d, (k, 0), 0)) : SoundAt xs s 2 d k := by
 rw [rdFields_ok (by simp)] at h
 have p0 := (rNum_pos xs s 63 hz hs (by decide)).1
 obtain ⟨a, t0, e0'⟩ : ∃ a t, rNum xs s 63 = (a, t) := ⟨_, _, rfl⟩
 rw [e0'] at h p0
 simp only at h p0
 rw [show rdBody xs ({ ({ zeroD with kind := 2 } : DeedD) with acct := a }) t0 0 = ({ zeroD with kind := 2, acct := a }, t0, 0) from by simp [rdBody]] at h
 obtain ⟨_, g0, g⟩ := amt_got hz p0 h
 rcases g with ⟨g, _⟩ | ⟨_, c, m1, m2, rfl, m3, m4⟩
 ·simp [paidD, wi, zeroD] at g
 simp only at g0
 obtain ⟨e0, a0, b0, c0', d0⟩ := num_got hz hs e0' g0
 exact ⟨e0, m4, right_of (by simp only [zeroD]; omega) (by simp [bareD, zeroD]) (by simp only [zeroD]; omega) (by simp only [zeroD]; omega) (by simp only [zeroD]; omega) (by simp only [zeroD]; omega) (by simp [paidD, wi, zeroD]; omega) (by simp only [zeroD]; omega) (by simp only [zeroD]; omega) (by simp [zeroD]) (fun h => by simp at h), ⟨fun y hy => by simp only [zeroD, List.mem_cons, List.not_mem_nil, or_false] at hy; omega, ⟨by simp only [zeroD]; omega, by simp only [zeroD]; omega⟩, zeroP_ok⟩, by simp [zeroD], formN a.toNat ++ (formN c.toNat), by simp [encD, paidD, wi, zeroD], by rw [c0', m3]; simp⟩
theorem sound3 {xs : List Int} (hz : ∀ z ∈ xs, 0 ≤ z ∧ z ≤ 255) {s : Nat × Int} (hs : s.1 ≤ xs.length) {d : DeedD} {k : Nat} (h : rdFields xs ({ zeroD with kind := 3 }) s 0 = (d, (k, 0), 0)) : SoundAt xs s 3 d k := by
 rw [rdFields_ok (by simp)] at h
 have p0 := (rNum_pos xs s 63 hz hs (by decide)).1
 obtain ⟨a, t0, e0'⟩ : ∃ a t, rNum xs s 63 = (a, t) := ⟨_, _, rfl⟩
 rw [e0'] at h p0
 simp only at h p0
 have p1 := (rNum_pos xs t0 127 hz p0 (by decide)).1
 obtain ⟨v1, t1, e1'⟩ : ∃ a t, rNum xs t0 127 = (a, t) := ⟨_, _, rfl⟩
 rw [e1'] at p1; simp only at p1
 rw [show rdBody xs ({ ({ zeroD with kind := 3 } : DeedD) with acct := a }) t0 0 = ({ zeroD with kind := 3, acct := a, mem := v1 }, t1, 0) from by simp [rdBody, e1']] at h
 obtain ⟨_, g0, g⟩ := amt_got hz p1 h
 rcases g with ⟨g, _⟩ | ⟨_, c, m1, m2, rfl, m3, m4⟩
 ·simp [paidD, wi, zeroD] at g
 simp only at g0
 obtain ⟨z1, a1, b1, c1, d1⟩ := num_got hz p0 e1' g0
 obtain ⟨e0, a0, b0, c0', d0⟩ := num_got hz hs e0' z1
 exact ⟨e0, m4, right_of (by simp only [zeroD]; omega) (by simp [bareD, zeroD]) (by simp only [zeroD]; omega) (by simp only [zeroD]; omega) (by simp only [zeroD]; omega) (by simp only [zeroD]; omega) (by simp [paidD, wi, zeroD]; omega) (by simp only [zeroD]; omega) (by simp only [zeroD]; omega) (by simp [zeroD]) (fun h => by simp at h), ⟨fun y hy => by simp only [zeroD, List.mem_cons, List.not_mem_nil, or_false] at hy; omega, ⟨by simp only [zeroD]; omega, by simp only [zeroD]; omega⟩, zeroP_ok⟩, by simp [zeroD], formN a.toNat ++ (formN v1.toNat ++ (formN c.toNat)), by simp [encD, paidD, wi, zeroD], by rw [c0', c1, m3]; simp⟩
theorem sound4 {xs : List Int} (hz : ∀ z ∈ xs, 0 ≤ z ∧ z ≤ 255) {s : Nat × Int} (hs : s.1 ≤ xs.length) {d : DeedD} {k : Nat} (h : rdFields xs ({ zeroD with kind := 4 }) s 0 = (d, (k, 0), 0)) : SoundAt xs s 4 d k := by
 rw [rdFields_ok (by simp)] at h
 have p0 := (rNum_pos xs s 63 hz hs (by decide)).1
 obtain ⟨a, t0, e0'⟩ : ∃ a t, rNum xs s 63 = (a, t) := ⟨_, _, rfl⟩
 rw [e0'] at h p0
 simp only at h p0
 have p1 := (rNum_pos xs t0 127 hz p0 (by decide)).1
 obtain ⟨v1, t1, e1'⟩ : ∃ a t, rNum xs t0 127 = (a, t) := ⟨_, _, rfl⟩
 rw [e1'] at p1; simp only at p1
 rw [show rdBody xs ({ ({ zeroD with kind := 4 } : DeedD) with acct := a }) t0 0 = ({ zeroD with kind := 4, acct := a, mem := v1 }, t1, 0) from by simp [rdBody, e1']] at h
 obtain ⟨_, g0, g⟩ := amt_got hz p1 h
 rcases g with ⟨_, rfl, g1⟩ | ⟨g, _⟩
 rotate_left
 ·simp [paidD, wi, zeroD] at g
 simp only at g0 g1
 subst g1
 obtain ⟨z1, a1, b1, c1, d1⟩ := num_got hz p0 e1' g0
 obtain ⟨e0, a0, b0, c0', d0⟩ := num_got hz hs e0' z1
 exact ⟨e0, d1, right_of (by simp only [zeroD]; omega) (by simp [bareD, zeroD]) (by simp only [zeroD]; omega) (by simp only [zeroD]; omega) (by simp only [zeroD]; omega) (by simp only [zeroD]; omega) (by simp [paidD, wi, zeroD]) (by simp only [zeroD]; omega) (by simp only [zeroD]; omega) (by simp [zeroD]) (fun h => by simp at h), ⟨fun y hy => by simp only [zeroD, List.mem_cons, List.not_mem_nil, or_false] at hy; omega, ⟨by simp only [zeroD]; omega, by simp only [zeroD]; omega⟩, zeroP_ok⟩, by simp [zeroD], formN a.toNat ++ (formN v1.toNat), by simp [encD, paidD, wi, zeroD], by rw [c0', c1]; simp⟩
theorem sound7 {xs : List Int} (hz : ∀ z ∈ xs, 0 ≤ z ∧ z ≤ 255) {s : Nat × Int} (hs : s.1 ≤ xs.length) {d : DeedD} {k : Nat} (h : rdFields xs ({ zeroD with kind := 7 }) s 0 = (d, (k, 0), 0)) : SoundAt xs s 7 d k := by
 rw [rdFields_ok (by simp)] at h
 have p0 := (rNum_pos xs s 63 hz hs (by decide)).1
 obtain ⟨a, t0, e0'⟩ : ∃ a t, rNum xs s 63 = (a, t) := ⟨_, _, rfl⟩
 rw [e0'] at h p0
 simp only at h p0
 have p1 := (rNum_pos xs t0 127 hz p0 (by decide)).1
 obtain ⟨v1, t1, e1'⟩ : ∃ a t, rNum xs t0 127 = (a, t) := ⟨_, _, rfl⟩
 rw [e1'] at p1; simp only at p1
 have p2 := (rNum_pos xs t1 31 hz p1 (by decide)).1
 obtain ⟨v2, t2, e2'⟩ : ∃ a t, rNum xs t1 31 = (a, t) := ⟨_, _, rfl⟩
 rw [e2'] at p2; simp only at p2
 have p3 := (rNum_pos xs t2 1 hz p2 (by decide)).1
 obtain ⟨v3, t3, e3'⟩ : ∃ a t, rNum xs t2 1 = (a, t) := ⟨_, _, rfl⟩
 rw [e3'] at p3; simp only at p3
 rw [show rdBody xs ({ ({ zeroD with kind := 7 } : DeedD) with acct := a }) t0 0 = ({ zeroD with kind := 7, acct := a, mem := v1, mot := v2, yes := decide (v3 = 1) }, t3, 0) from by simp [rdBody, e1', e2', e3']] at h
 obtain ⟨_, g0, g⟩ := amt_got hz p3 h
 rcases g with ⟨_, rfl, g1⟩ | ⟨g, _⟩
 rotate_left
 ·simp [paidD, wi, zeroD] at g
 simp only at g0 g1
 subst g1
 obtain ⟨z3, a3, b3, c3, d3⟩ := num_got hz p2 e3' g0
 obtain ⟨z2, a2, b2, c2, d2⟩ := num_got hz p1 e2' z3
 obtain ⟨z1, a1, b1, c1, d1⟩ := num_got hz p0 e1' z2
 obtain ⟨e0, a0, b0, c0', d0⟩ := num_got hz hs e0' z1
 have hy : ((decide (v3 = 1)).toNat : Nat) = v3.toNat := by
  rcases (by omega : v3 = 0 ∨ v3 = 1) with rfl | rfl <;> rfl
 exact ⟨e0, d3, right_of (by simp only [zeroD]; omega) (by simp [bareD, zeroD]) (by simp only [zeroD]; omega) (by simp only [zeroD]; omega) (by simp only [zeroD]; omega) (by simp only [zeroD]; omega) (by simp [paidD, wi, zeroD]) (by simp only [zeroD]; omega) (by simp only [zeroD]; omega) (by simp [zeroD]) (fun h => by simp at h), ⟨fun y hy => by simp only [zeroD, List.mem_cons, List.not_mem_nil, or_false] at hy; omega, ⟨by simp only [zeroD]; omega, by simp only [zeroD]; omega⟩, zeroP_ok⟩, by simp [zeroD], formN a.toNat ++ (formN v1.toNat ++ (formN v2.toNat ++ (formN v3.toNat))), by simp [encD, paidD, wi, zeroD, hy], by rw [c0', c1, c2, c3]; simp⟩
theorem sound5 {xs : List Int} (hz : ∀ z ∈ xs, 0 ≤ z ∧ z ≤ 255) {s : Nat × Int} (hs : s.1 ≤ xs.length) {d : DeedD} {k : Nat} (h : rdFields xs ({ zeroD with kind := 5 }) s 0 = (d, (k, 0), 0)) : SoundAt xs s 5 d k := by
 have p0 := (rNum_pos xs s 1073741824 hz hs (by decide)).1
 obtain ⟨a, t0, e0'⟩ : ∃ a t, rNum xs s 1073741824 = (a, t) := ⟨_, _, rfl⟩
 obtain ⟨bs, t1, e1'⟩ : ∃ a t, rRaw xs t0 32 = (a, t) := ⟨_, _, rfl⟩
 rw [show rdFields xs ({ zeroD with kind := 5 }) s 0 = ({ zeroD with kind := 5, ep := a, bits := bs }, t1, 0) from by simp [rdFields, e0', e1']] at h
 injection h with h1 h2
 injection h2 with h2 _
 subst h1
 subst h2
 rw [e0'] at p0
 simp only at p0
 obtain ⟨z1, a1, c1', d1, _⟩ := rRaw_sound hz p0 e1'
 obtain ⟨e0, a0, b0, c0', d0⟩ := num_got hz hs e0' z1
 have hbs : ∀ y ∈ bs, 0 ≤ y ∧ y ≤ 255 := fun y hy => hz y (List.mem_of_mem_drop (i := t0.1) (by rw [c1', rawN]; simp [hy]))
 exact ⟨e0, d1, right_of (by simp only [zeroD]; omega) (by simp [bareD, zeroD]) (by simp only [zeroD]; omega) (by simp only [zeroD]; omega) (by simp only [zeroD]; omega) (by simp only [zeroD]; omega) (by simp [paidD, wi, zeroD]) (by simp only [zeroD]; omega) (by simp only [zeroD]; omega) a1 (fun h => by simp at h), ⟨fun y hy => by simp only [zeroD, List.mem_cons, List.not_mem_nil, or_false] at hy; omega, ⟨by simp only [zeroD]; omega, by simp only [zeroD]; omega⟩, zeroP_ok⟩, hbs, formN a.toNat ++ rawN bs, by simp [encD, paidD, wi, zeroD], by rw [c0', c1']; simp⟩
theorem sound6 {xs : List Int} (hz : ∀ z ∈ xs, 0 ≤ z ∧ z ≤ 255) {s : Nat × Int} (hs : s.1 ≤ xs.length) {d : DeedD} {k : Nat} (h : rdFields xs ({ zeroD with kind := 6 }) s 0 = (d, (k, 0), 0)) : SoundAt xs s 6 d k := by
 rw [rdFields_ok (by simp)] at h
 have p0 := (rNum_pos xs s 63 hz hs (by decide)).1
 obtain ⟨a, t0, e0'⟩ : ∃ a t, rNum xs s 63 = (a, t) := ⟨_, _, rfl⟩
 rw [e0'] at h p0
 simp only at h p0
 have p1 := (rNum_pos xs t0 255 hz p0 (by decide)).1
 obtain ⟨w, t1, e1'⟩ : ∃ a t, rNum xs t0 255 = (a, t) := ⟨_, _, rfl⟩
 rw [e1'] at p1; simp only at p1
 rw [show rdBody xs ({ ({ zeroD with kind := 6 } : DeedD) with acct := a }) t0 0 = rdMove xs ({ ({ zeroD with kind := 6 } : DeedD) with acct := a }) t0 0 from by simp [rdBody]] at h
 simp only [rdMove, e1'] at h
 by_cases cc : must (wi w 1 4) 80 0 t1.2 = 0 ∧ t1.2 = 0
 rotate_left
 ·rw [if_neg cc] at h
  obtain ⟨g1, g0, _⟩ := amt_got hz p1 h
  exact absurd ⟨g1, g0⟩ cc
 rw [if_pos cc, cc.1] at h
 have hw := wi_iff.1 (must_z (by decide) cc.2 rfl cc.1)
 obtain ⟨z1, a1, b1, c1', d1⟩ := num_got hz p0 e1' cc.2
 obtain ⟨e0, a0, b0, c0', d0⟩ := num_got hz hs e0' z1
 by_cases w1 : w = 1
 ·subst w1
  rw [if_pos rfl] at h
  have pp := rPar_ok (s := t1) hz p1
  obtain ⟨g1, g0, g⟩ := amt_got hz pp.2 h
  simp only at g1 g0
  have hpr := of_decide_eq_true (must_z (by decide) g0 rfl g1)
  rcases g with ⟨_, rfl, g2⟩ | ⟨g, _⟩
  rotate_left
  ·simp [paidD, wi, zeroD] at g
  simp only at g2
  obtain ⟨z2, c2', d2⟩ := rPar_sound hz p1 g2
  have hpd : (pRead xs t1).1 = (rPar xs t1).1 ∧ parR (rPar xs t1).1 = true := by
   unfold pRead at hpr ⊢
   rw [if_neg (by rw [g0]; simp)] at hpr ⊢
   by_cases hr : parR (rPar xs t1).1 = true
   ·rw [if_pos hr]; exact ⟨rfl, hr⟩
   ·rw [if_neg hr] at hpr; simp at hpr
  rw [hpd.1]
  exact ⟨e0, d2, right_of (by simp only [zeroD]; omega) (by simp [bareD, zeroD]) (by simp only [zeroD]; omega) (by simp only [zeroD]; omega) (by simp only [zeroD]; omega) (by simp only [zeroD]; omega) (by simp [paidD, wi, zeroD]) (by simp only [zeroD]; omega) (by simp only [zeroD]; omega) (by simp [zeroD]) (fun _ => ⟨by simp, fun _ => hpd.2⟩), ⟨fun y hy => by simp only [zeroD, List.mem_cons, List.not_mem_nil, or_false] at hy; omega, ⟨by simp only [zeroD]; omega, by simp only [zeroD]; omega⟩, pp.1⟩, by simp [zeroD], formN a.toNat ++ (formN 1 ++ encP (rPar xs t1).1), by simp [encD, paidD, wi, zeroD], by rw [c0', c1', c2']; simp⟩
 rw [if_neg w1] at h
 by_cases w2 : w = 2
 ·subst w2
  rw [if_pos rfl] at h
  have p2 := (rNum_pos xs t1 63 hz p1 (by decide)).1
  obtain ⟨v, t2, e2'⟩ : ∃ a t, rNum xs t1 63 = (a, t) := ⟨_, _, rfl⟩
  rw [e2'] at h p2
  simp only at h p2
  obtain ⟨_, g0, g⟩ := amt_got hz p2 h
  rcases g with ⟨g, _⟩ | ⟨_, c, m1, m2, rfl, m3, m4⟩
  ·simp [paidD, wi, zeroD] at g
  simp only at g0 m3
  obtain ⟨z2, a2, b2, c2', d2⟩ := num_got hz p1 e2' g0
  exact ⟨e0, m4, right_of (by simp only [zeroD]; omega) (by simp [bareD, zeroD]) (by simp only [zeroD]; omega) (by simp only [zeroD]; omega) (by simp only [zeroD]; omega) (by simp only [zeroD]; omega) (by simp [paidD, wi, zeroD]; omega) (by simp only [zeroD]; omega) (by simp only [zeroD]; omega) (by simp [zeroD]) (fun _ => ⟨by simp, fun h => by simp at h⟩), ⟨fun y hy => by simp only [zeroD, List.mem_cons, List.not_mem_nil, or_false] at hy; omega, ⟨by simp only [zeroD]; omega, by simp only [zeroD]; omega⟩, zeroP_ok⟩, by simp [zeroD], formN a.toNat ++ (formN 2 ++ (formN v.toNat ++ formN c.toNat)), by simp [encD, paidD, wi, zeroD], by rw [c0', c1', c2', m3]; simp⟩
 rw [if_neg w2] at h
 obtain ⟨_, g0, g⟩ := amt_got hz p1 h
 rcases g with ⟨_, rfl, g1⟩ | ⟨g, _⟩
 rotate_left
 ·simp [paidD, wi, zeroD, w2] at g
 simp only at g1
 subst g1
 exact ⟨e0, d1, right_of (by simp only [zeroD]; omega) (by simp [bareD, zeroD, w1, w2]) (by simp only [zeroD]; omega) (by simp only [zeroD]; omega) (by simp only [zeroD]; omega) (by simp only [zeroD]; omega) (by simp [paidD, wi, zeroD, w2]) (by simp only [zeroD]; omega) (by simp only [zeroD]; omega) (by simp [zeroD]) (fun _ => ⟨hw, fun h => absurd h w1⟩), ⟨fun y hy => by simp only [zeroD, List.mem_cons, List.not_mem_nil, or_false] at hy; omega, ⟨by simp only [zeroD]; omega, by simp only [zeroD]; omega⟩, zeroP_ok⟩, by simp [zeroD], formN a.toNat ++ formN w.toNat, by simp [encD, paidD, wi, zeroD, w1, w2], by rw [c0', c1']; simp⟩
theorem rd_sound {xs : List Int} (hz : ∀ z ∈ xs, 0 ≤ z ∧ z ≤ 255) {s t : Nat × Int} (hs : s.1 ≤ xs.length) {d : DeedD} (h : rdDeed xs s = (d, 0, t)) :
  s.2 = 0 ∧ t.2 = 0 ∧ t.1 ≤ xs.length ∧ rightD d = true ∧ DeedOk d ∧ (∀ y ∈ d.bits, 0 ≤ y ∧ y ≤ 255) ∧ xs.drop s.1 = encD d ++ xs.drop t.1 := by
 simp only [rdDeed] at h
 split at h
 ·rename_i c
  injection h with _ h2
  injection h2 with h2 _
  exact absurd h2 c
 rename_i c1
 split at h
 ·rename_i c
  injection h with _ h2
  injection h2 with h2 _
  exact absurd h2 c
 rename_i c2
 injection h with h1 h2
 injection h2 with _ h2
 have t2 : t.2 = 0 := by rw [← h2]; omega
 have hall : rdAll xs s = (d, (t.1, 0), 0) := Prod.ext h1 (Prod.ext (by rw [h2, ← t2]) (by simp only; omega))
 have p0 := (rNum_pos xs s 255 hz hs (by decide)).1
 obtain ⟨z, t0, e0'⟩ : ∃ a t, rNum xs s 255 = (a, t) := ⟨_, _, rfl⟩
 rw [e0'] at p0
 simp only at p0
 simp only [rdAll, e0'] at hall
 by_cases cc : must (wi z 1 7) 80 0 t0.2 = 0 ∧ t0.2 = 0
 rotate_left
 ·rw [if_neg cc] at hall
  injection hall with _ hq
  injection hq with hq1 hq2
  exact absurd ⟨hq2, by rw [hq1]⟩ cc
 rw [if_pos cc, cc.1] at hall
 have hw := wi_iff.1 (must_z (by decide) cc.2 rfl cc.1)
 obtain ⟨e0, a0, b0, c0', d0⟩ := num_got hz hs e0' cc.2
 have key : SoundAt xs t0 z d t.1 := by
  rcases (by omega : z = 1 ∨ z = 2 ∨ z = 3 ∨ z = 4 ∨ z = 5 ∨ z = 6 ∨ z = 7) with rfl | rfl | rfl | rfl | rfl | rfl | rfl
  ·exact sound1 hz p0 hall
  ·exact sound2 hz p0 hall
  ·exact sound3 hz p0 hall
  ·exact sound4 hz p0 hall
  ·exact sound5 hz p0 hall
  ·exact sound6 hz p0 hall
  ·exact sound7 hz p0 hall
 obtain ⟨_, k1, k2, k3, k4, b, k5, k6⟩ := key
 refine ⟨e0, t2, k1, k2, k3, k4, ?_⟩
 rw [c0', k6, k5, List.append_assoc]
def encL (l : List DeedD) : List Int := l.flatMap encD
def encB (l : List DeedD) : List Int := formN l.length ++ encL l
theorem encL_cons (d : DeedD) (l : List DeedD) : encL (d :: l) = encD d ++ encL l := rfl
def AllR (l : List DeedD) : Prop := ∀ d ∈ l, DeedOk d ∧ rightD d = true
def rdL (xs : List Int) : Nat → Nat × Int → List DeedD × Int × (Nat × Int)
 | 0, s => ([], 0, s)
 | k + 1, s => if (rdDeed xs s).2.1 ≠ 0 then ([], (rdDeed xs s).2.1, (rdDeed xs s).2.2) else ((rdDeed xs s).1 :: (rdL xs k (rdDeed xs s).2.2).1, (rdL xs k (rdDeed xs s).2.2).2)
def bdec (xs : List Int) : List DeedD × Int × Int :=
 if 131072 < xs.length then ([], 0, 3)
 else if (rNum xs (0, 0) 64).2.2 ≠ 0 then ([], 0, (rNum xs (0, 0) 64).2.2)
 else if (rdL xs (rNum xs (0, 0) 64).1.toNat (rNum xs (0, 0) 64).2).2.1 ≠ 0 then ([], (rdL xs (rNum xs (0, 0) 64).1.toNat (rNum xs (0, 0) 64).2).1.length, (rdL xs (rNum xs (0, 0) 64).1.toNat (rNum xs (0, 0) 64).2).2.1)
 else if rDone xs (rdL xs (rNum xs (0, 0) 64).1.toNat (rNum xs (0, 0) 64).2).2.2 ≠ 0 then ([], (rNum xs (0, 0) 64).1, rDone xs (rdL xs (rNum xs (0, 0) 64).1.toNat (rNum xs (0, 0) 64).2).2.2)
 else ((rdL xs (rNum xs (0, 0) 64).1.toNat (rNum xs (0, 0) 64).2).1, 0, 0)
theorem rdL_bad {xs : List Int} {k : Nat} {s : Nat × Int} (h : (rdDeed xs s).2.1 ≠ 0) : rdL xs (k + 1) s = ([], (rdDeed xs s).2.1, (rdDeed xs s).2.2) := by rw [rdL, if_pos h]
theorem rdL_ok {xs : List Int} {k : Nat} {s : Nat × Int} (h : (rdDeed xs s).2.1 = 0) : rdL xs (k + 1) s = ((rdDeed xs s).1 :: (rdL xs k (rdDeed xs s).2.2).1, (rdL xs k (rdDeed xs s).2.2).2) := by rw [rdL, if_neg (by simpa using h)]
theorem rdL_sound {xs : List Int} (hz : ∀ z ∈ xs, 0 ≤ z ∧ z ≤ 255) : ∀ (k : Nat) (s : Nat × Int), s.1 ≤ xs.length → s.2 = 0 → (rdL xs k s).2.1 = 0 →
  (rdL xs k s).2.2.2 = 0 ∧ (rdL xs k s).2.2.1 ≤ xs.length ∧ (rdL xs k s).1.length = k ∧ AllR (rdL xs k s).1 ∧ xs.drop s.1 = encL (rdL xs k s).1 ++ xs.drop (rdL xs k s).2.2.1
 | 0, s, h1, h2, _ => ⟨h2, h1, rfl, (fun d hd => by cases hd), rfl⟩
 | k + 1, s, h1, h2, h => by
  by_cases c : (rdDeed xs s).2.1 = 0
  ·rw [rdL_ok c] at h ⊢
   have hd : rdDeed xs s = ((rdDeed xs s).1, 0, (rdDeed xs s).2.2) := Prod.ext rfl (Prod.ext c rfl)
   obtain ⟨_, t2, t1, r1, r2, _, r3⟩ := rd_sound hz h1 hd
   obtain ⟨q1, q2, q3, q4, q5⟩ := rdL_sound hz k _ t1 t2 h
   refine ⟨q1, q2, by simp only [List.length_cons, q3], fun d hd => ?_, ?_⟩
   ·rcases List.mem_cons.1 hd with rfl | hd
    ·exact ⟨r2, r1⟩
    ·exact q4 d hd
   ·rw [r3, q5, encL_cons, List.append_assoc]
  ·rw [rdL_bad c] at h
   exact absurd h c
theorem rdL_pos {xs : List Int} (hz : ∀ z ∈ xs, 0 ≤ z ∧ z ≤ 255) {s : Nat × Int} (h1 : s.1 ≤ xs.length) (h : (rdDeed xs s).2.1 = 0) : (rdDeed xs s).2.2.1 ≤ xs.length ∧ (rdDeed xs s).2.2.2 = 0 ∧ DeedOk (rdDeed xs s).1 := by
 have hd : rdDeed xs s = ((rdDeed xs s).1, 0, (rdDeed xs s).2.2) := Prod.ext rfl (Prod.ext h rfl)
 obtain ⟨_, t2, t1, _, r2, _⟩ := rd_sound hz h1 hd
 exact ⟨t1, t2, r2⟩
theorem bdec_sound {xs : List Int} (hz : ∀ z ∈ xs, 0 ≤ z ∧ z ≤ 255) (h : (bdec xs).2.2 = 0) : AllR (bdec xs).1 ∧ (bdec xs).1.length ≤ 64 ∧ encB (bdec xs).1 = xs := by
 have hp := rNum_pos xs (0, 0) 64 hz (Nat.zero_le _) (by decide)
 simp only [bdec] at h ⊢
 split at h
 ·simp at h
 rename_i c0
 split at h
 ·rename_i c1; exact absurd h c1
 rename_i c1
 split at h
 ·rename_i c2; exact absurd h c2
 rename_i c2
 split at h
 ·rename_i c3; exact absurd h c3
 rename_i c3
 rw [if_neg c0, if_neg c1, if_neg c2, if_neg c3]
 have c1 : (rNum xs (0, 0) 64).2.2 = 0 := by simpa using c1
 have c2 := Decidable.of_not_not c2
 have c3 := Decidable.of_not_not c3
 obtain ⟨_, n, m1, m2, m3, m4, m5, m6⟩ := rNum_sound (xs := xs) (s := (0, 0)) (most := 64) (v := (rNum xs (0, 0) 64).1) (k := (rNum xs (0, 0) 64).2.1) hz (Prod.ext rfl (Prod.ext rfl c1))
 obtain ⟨q1, q2, q3, q4, q5⟩ := rdL_sound hz _ _ hp.1 c1 c2
 refine ⟨q4, by rw [q3]; omega, ?_⟩
 simp only [rDone] at c3
 rw [encB, q3]
 have hn : (rNum xs (0, 0) 64).1.toNat = n := by omega
 by_cases hl : (rdL xs (rNum xs (0, 0) 64).1.toNat (rNum xs (0, 0) 64).2).2.2.1 < xs.length
 ·rw [if_pos ⟨q1, hl⟩] at c3; simp at c3
 ·have hnil : xs.drop (rdL xs (rNum xs (0, 0) 64).1.toNat (rNum xs (0, 0) 64).2).2.2.1 = [] := List.drop_eq_nil_of_le (by omega)
  rw [hnil, List.append_nil] at q5
  rw [List.drop_zero] at m4
  rw [← q5, hn]
  exact m4.symm
variable {L : Own} {h : PH} {K : PK}
theorem bdec_any {xs : List Int} (v : Value) (hx0 : Ints h .u8 v xs) (hk : ∀ h' r l, PH.le h h' → Deeds h' r l → dl l = (bdec xs).1 → K (.tuple #[r, .int .i64 (bdec xs).2.1, .int .i64 (bdec xs).2.2]) L h') :
  Spec Tryz.prog 84 [v] L h K := by
 have hz := byte_of hx0
 have ox := hx0.open
 obtain ⟨xa, xc, rfl, _, hxl, _⟩ := ox
 refine x_enter Tryz.func84 rfl (rs := [_, _, _]) rfl rfl mixed (by kernel_rfl) rfl rfl ?_
 simp -dsimp -implicitDefEqProofs (disch := first|with_reducible assumption|omega) [go_sem]
 by_cases c0 : (xs.length : Int) > 131072
 ·have e : bdec xs = ([], 0, 3) := by rw [bdec, if_pos (by omega)]
  rw [e] at hk
  simp -dsimp -implicitDefEqProofs (disch := first|with_reducible assumption|omega) [go_sem]
  exact fin_here (hk h _ [] (PH.le_refl _) (Deeds.nil h) rfl)
 simp -dsimp -implicitDefEqProofs (disch := first|with_reducible assumption|omega) [go_sem]
 refine Spec.apn (open_any _ hx0 (by omega) fun h2 br rv le2 hr2 ap nd => ?_)
 simp only [Ap] at ap
 obtain ⟨ap1, _⟩ := ap
 simp -dsimp -implicitDefEqProofs (disch := first|with_reducible assumption|omega) [go_sem]
 refine Spec.apn (rint_any (most := 64) hr2 (Nat.zero_le _) (by decide) (by decide) ?_)
 intro ap nd
 have hp := rNum_pos xs (0, 0) 64 hz (Nat.zero_le _) (by decide)
 obtain ⟨n, s0, hns⟩ : ∃ n s0, rNum xs (0, 0) 64 = (n, s0) := ⟨_, _, rfl⟩
 rw [hns] at hp ⊢
 simp only at hp ⊢
 simp only [wO, rO, List.cons_append, List.nil_append]
 simp -dsimp -implicitDefEqProofs (disch := first|with_reducible assumption|omega) [go_sem]
 refine rerr_any (s := s0) ?_
 simp only [wO, rO, List.cons_append, List.nil_append]
 simp -dsimp -implicitDefEqProofs (disch := first|with_reducible assumption|omega) [go_sem]
 have eb : bdec xs = if s0.2 ≠ 0 then ([], 0, s0.2) else if (rdL xs n.toNat s0).2.1 ≠ 0 then ([], ((rdL xs n.toNat s0).1.length : Int), (rdL xs n.toNat s0).2.1) else if rDone xs (rdL xs n.toNat s0).2.2 ≠ 0 then ([], n, rDone xs (rdL xs n.toNat s0).2.2) else ((rdL xs n.toNat s0).1, 0, 0) := by
  rw [bdec, if_neg (by omega), hns]
 by_cases c1 : s0.2 = 0
 rotate_left
 ·rw [if_pos c1] at eb
  rw [eb] at hk
  simp -dsimp -implicitDefEqProofs (disch := first|with_reducible assumption|omega) [go_sem]
  exact fin_tail (fin_here (hk h2 _ [] le2 (Deeds.nil _) rfl))
 rw [if_neg (by simpa using c1)] at eb
 simp -dsimp -implicitDefEqProofs (disch := first|with_reducible assumption|omega) [go_sem]
 obtain ⟨m, rfl⟩ := Int.eq_ofNat_of_zero_le hp.2.1
 rw [Int.toNat_natCast] at eb
 refine xloop (γ := Nat × Option (Nat × Nat) × List QD × (Nat × Int) × PH) (0, none, [], s0, h2)
  (fun s => s.1 ≤ m ∧ okO s.2.1 s.1 ∧ apO s.2.1 (rO br rv s.2.2.2.1 L) s.2.2.2.2 ∧ s.2.2.1.length = s.1 ∧ (∀ q ∈ s.2.2.1, IsDeed s.2.2.2.2 q.1 q.2) ∧ s.2.2.2.1.1 ≤ xs.length ∧ s.2.2.2.1.2 = 0 ∧ PH.le h2 s.2.2.2.2 ∧ s.2.2.2.2 br = noC ∧
   rdL xs m s0 = (dl s.2.2.1 ++ (rdL xs (m - s.1) s.2.2.2.1).1, (rdL xs (m - s.1) s.2.2.2.1).2))
  (fun s => [(25, .int .i64 s.1), (24, .int .i64 m), (5, .pointer (some ⟨br, 0, none⟩)), (6, .int .i64 m), (2, ovs s.2.1 s.1)])
  (fun s => rO br rv s.2.2.2.1 (oent 52 34 s.2.1 (cellsL s.2.2.1) L)) (fun s => s.2.2.2.2) (fun s => m - s.1) ?_ ?_ ?_ ?_
 ·exact ⟨Nat.zero_le _, rfl, trivial, rfl, (fun q hq => by cases hq), hp.1, c1, PH.le_refl _, ap1, by simp [dl]⟩
 ·simp [Ent, List.lookup, xEnv, ovs]
 ·exact Drop.refl _ _
 rintro ⟨k, o, acc, s, hh⟩ ⟨i1, i2, i3, i4, i5, i6, i7, i8, i9, i10⟩
 simp only at i1 i2 i3 i4 i5 i6 i7 i8 i9 i10 ⊢
 by_cases c2 : k < m
 ·obtain ⟨u, hu⟩ : ∃ u, m - k = u + 1 := ⟨m - k - 1, by omega⟩
  rw [hu] at i10
  simp only [wO, rO, List.cons_append, List.nil_append]
  simp -dsimp -implicitDefEqProofs (disch := first|with_reducible assumption|omega) [go_sem]
  refine Spec.apn (dread_any (hr2.up i8) i6 fun h4 bv le4 hb4 ap nd => ?_)
  have ob4 := hb4.open
  obtain ⟨x4, y4, rfl, _⟩ := ob4
  obtain ⟨d, e, s', hd⟩ : ∃ d e s', rdDeed xs s = (d, e, s') := ⟨_, _, _, rfl⟩
  rw [hd] at hb4 ap nd ⊢
  simp only at hb4 ap nd ⊢
  simp only [rO, Ap] at ap
  obtain ⟨u1, u2⟩ := ap
  simp only [wO, rO, List.cons_append, List.nil_append]
  simp -dsimp -implicitDefEqProofs (disch := first|with_reducible assumption|omega) [go_sem]
  refine xnew fun b1 n_b1 h_b1 => ?_
  try simp only [Apart] at n_b1
  simp -dsimp -implicitDefEqProofs (disch := first|with_reducible assumption|omega) [go_sem]
  by_cases c3 : e = 0
  rotate_left
  ·rw [rdL_bad (by rw [hd]; exact c3), hd] at i10
   simp only [List.append_nil] at i10
   rw [i10] at eb
   simp only at eb
   rw [if_pos c3, dl_len, i4] at eb
   rw [eb] at hk
   simp -dsimp -implicitDefEqProofs (disch := first|with_reducible assumption|omega) [go_sem]
   exact fin_tail (fin_tail (fin_oent (fin_here (hk h4 _ [] (le2.trans (i8.trans le4)) (Deeds.nil _) rfl))))
  subst c3
  have hps := rdL_pos hz i6 (by rw [hd])
  rw [rdL_ok (by rw [hd]), hd] at i10
  rw [hd] at hps
  simp only at i10 hps
  simp -dsimp -implicitDefEqProofs (disch := first|with_reducible assumption|omega) [go_sem]
  refine xnew fun b2 n_b2 h_b2 => ?_
  try simp only [Apart] at n_b2
  simp -dsimp -implicitDefEqProofs (disch := first|with_reducible assumption|omega) [go_sem]
  refine xappend (t := 73) (e := 52) (sz := 34) (bytes := 288) (by kernel_rfl) tI_52 rfl rfl rfl rfl (by decide) [_, _, _] L o k (cellsL acc) i2 (by rw [cellsL_len, i4]) (Src.own List.mem_cons_self) (m := 1) (news := qC (.slice x4 d.bits.length y4, d)) rfl (qC_one _ rfl) (by simp [maxLen]; omega) (by omega) ?_
  intro o' j1 j2 j3
  simp -dsimp -implicitDefEqProofs (disch := first|with_reducible assumption|omega) [go_sem]
  refine ⟨k + 1, o', acc ++ [(.slice x4 d.bits.length y4, d)], s'.1, s'.2, h4, ⟨by omega, j1, apO_tail (apO_tail j2), by simp [i4], ?_, hps.1, hps.2.1, i8.trans le4, u1, ?_⟩, by omega, by simp [Ent, List.lookup], ?_⟩
  ·intro qa qb hq
   have hq : (qa, qb) ∈ acc ++ [(.slice x4 d.bits.length y4, d)] := by simpa using hq
   rcases List.mem_append.1 hq with hq | hq
   ·exact (i5 (qa, qb) hq).up le4
   ·have := List.mem_singleton.1 hq
    injection this with e1 e2
    subst e1; subst e2
    exact ⟨hb4, hps.2.2⟩
  ·rw [i10, show m - (k + 1) = u by omega, dl_app]
   simp [dl]
  ·rw [cellsL_app, cellsL_one]
   exact (Drop.tail _ _ _).trans (Drop.tail _ _ _)
 ·have hkm : k = m := by omega
  subst hkm
  rw [Nat.sub_self] at i10
  simp only [rdL, List.append_nil] at i10
  rw [i10] at eb
  simp only [ne_eq, not_true_eq_false, if_false] at eb
  simp only [wO, rO, List.cons_append, List.nil_append]
  simp -dsimp -implicitDefEqProofs (disch := first|with_reducible assumption|omega) [go_sem]
  refine Spec.apn (rdone_any (s := s) (hr2.up i8) ?_)
  intro ap nd
  by_cases c4 : rDone xs s = 0
  rotate_left
  ·rw [if_pos c4] at eb
   rw [eb] at hk
   simp only [wO, rO, List.cons_append, List.nil_append]
   simp -dsimp -implicitDefEqProofs (disch := first|with_reducible assumption|omega) [go_sem]
   exact fin_tail (fin_oent (fin_here (hk hh _ [] (le2.trans i8) (Deeds.nil _) rfl)))
  ·rw [if_neg (by simpa using c4)] at eb
   rw [eb] at hk
   rw [c4]
   simp only [wO, rO, List.cons_append, List.nil_append]
   simp -dsimp -implicitDefEqProofs (disch := first|with_reducible assumption|omega) [go_sem]
   refine fin_tail (fin_pub (n := acc.length) (by rw [i4]; exact i2) (cellsL_len acc) (by omega) (apO_tail i3) fun h' le sl => fin_here ?_)
   rw [← i4]
   exact hk h' _ acc (le2.trans (i8.trans le)) ⟨sl, fun q hq => (i5 q hq).up le⟩ rfl
end Go.X

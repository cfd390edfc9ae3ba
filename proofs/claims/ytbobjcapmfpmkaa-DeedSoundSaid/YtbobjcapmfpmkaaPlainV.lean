/- Plain law of deeds' coding: what is read is right and has just these bytes. Conditions: as each lemma says. -/
import Derived.Test.YtbobjcapmfpmkaaPlainU
set_option linter.unusedVariables false
set_option linter.unusedSimpArgs false
namespace Go.X
open Go.RowKit Go.Bl

theorem num_got {xs : List Int} {s : Nat × Int} {most z : Int} {t : Nat × Int} (hz : ∀ z ∈ xs, 0 ≤ z ∧ z ≤ 255) (hs : s.1 ≤ xs.length) (e : rNum xs s most = (z, t)) (h : t.2 = 0) :
    s.2 = 0 ∧ 0 ≤ z ∧ z ≤ most ∧ xs.drop s.1 = formN z.toNat ++ xs.drop t.1 ∧ t.1 ≤ xs.length := by
  obtain ⟨k, q⟩ := t
  simp only at h
  subst h
  obtain ⟨h0, n, rfl, hn, _, hd, _, hk⟩ := rNum_sound hz e
  exact ⟨h0, by omega, hn, by simpa using hd, hk hs⟩
theorem amt_got {xs : List Int} (hz : ∀ z ∈ xs, 0 ≤ z ∧ z ≤ 255) {q : DeedD × (Nat × Int) × Int} (hs : q.2.1.1 ≤ xs.length) {d : DeedD} {k : Nat} (h : rdAmt xs q = (d, (k, 0), 0)) :
    q.2.2 = 0 ∧ q.2.1.2 = 0 ∧ ((paidD q.1 = false ∧ d = q.1 ∧ q.2.1 = (k, 0)) ∨ (paidD q.1 = true ∧ ∃ a : Int, 0 < a ∧ a ≤ 4611686018427387904 ∧ d = { q.1 with amt := a } ∧ xs.drop q.2.1.1 = formN a.toNat ++ xs.drop k ∧ k ≤ xs.length)) := by
  unfold rdAmt at h
  split at h
  · rename_i c
    injection h with h1 h2
    injection h2 with h2 h3
    obtain ⟨_, b1, b2, b3, b4⟩ := num_got hz hs (Prod.ext rfl h2 : rNum xs q.2.1 4611686018427387904 = ((rNum xs q.2.1 4611686018427387904).1, (k, 0))) rfl
    have hp := must_z (by decide) (by rw [h2]) c.1 h3
    exact ⟨c.1, c.2.1, Or.inr ⟨c.2.2, _, of_decide_eq_true hp, b2, h1.symm, b3, b4⟩⟩
  · rename_i c
    subst h
    refine ⟨rfl, rfl, Or.inl ⟨?_, rfl, rfl⟩⟩
    cases hp : paidD d with
    | false => rfl
    | true => exact absurd ⟨rfl, rfl, hp⟩ c
theorem sameD_self (d : DeedD) : sameD d d = true := by simp [sameD]
theorem right_of {d : DeedD} (hk : 1 ≤ d.kind ∧ d.kind ≤ 7) (hb : bareD d = d) (h1 : 0 ≤ d.acct ∧ d.acct ≤ 63) (h2 : 0 ≤ d.to ∧ d.to ≤ 63) (h3 : 0 ≤ d.mem ∧ d.mem ≤ 127) (h4 : 0 ≤ d.mot ∧ d.mot ≤ 31)
    (hp : paidD d = decide (0 < d.amt)) (ha : d.amt ≤ 4611686018427387904) (he : 0 ≤ d.ep ∧ d.ep ≤ 1073741824) (hl : (d.bits.length : Int) ≤ 32) (h6 : d.kind = 6 → (1 ≤ d.what ∧ d.what ≤ 4) ∧ (d.what = 1 → parR d.par = true)) : rightD d = true := by
  unfold rightD
  rw [hb, sameD_self, hp, wi_iff.2 hk, wi_iff.2 h1, wi_iff.2 h2, wi_iff.2 h3, wi_iff.2 h4, wi_iff.2 he, decide_eq_true ha, decide_eq_true hl]
  by_cases k6 : d.kind = 6
  · obtain ⟨g1, g2⟩ := h6 k6
    rw [wi_iff.2 g1]
    by_cases w1 : d.what = 1
    · simp [g2 w1]
    · simp [w1]
  · simp [k6]
theorem zero_is : (zeroD.kind = 0 ∧ zeroD.acct = 0 ∧ zeroD.mem = 0 ∧ zeroD.to = 0) ∧ (zeroD.amt = 0 ∧ zeroD.ep = 0 ∧ zeroD.bits = [] ∧ zeroD.what = 0) ∧ zeroD.par = zeroP ∧ zeroD.mot = 0 ∧ zeroD.yes = false := ⟨⟨rfl, rfl, rfl, rfl⟩, ⟨rfl, rfl, rfl, rfl⟩, rfl, rfl, rfl⟩
def SoundAt (xs : List Int) (s : Nat × Int) (z : Int) (d : DeedD) (k : Nat) : Prop :=
  s.2 = 0 ∧ k ≤ xs.length ∧ rightD d = true ∧ DeedOk d ∧ (∀ y ∈ d.bits, 0 ≤ y ∧ y ≤ 255) ∧ ∃ b, encD d = formN z.toNat ++ b ∧ xs.drop s.1 = b ++ xs.drop k

theorem sound1 {xs : List Int} (hz : ∀ z ∈ xs, 0 ≤ z ∧ z ≤ 255) {s : Nat × Int} (hs : s.1 ≤ xs.length) {d : DeedD} {k : Nat} (h : rdFields xs ({ zeroD with kind := 1 }) s 0 = (d, (k, 0), 0)) : SoundAt xs s 1 d k := by
  rw [rdFields_ok (by simp)] at h
  have p0 := (rNum_pos xs s 63 hz hs (by decide)).1
  obtain ⟨a, t0, e0'⟩ : ∃ a t, rNum xs s 63 = (a, t) := ⟨_, _, rfl⟩
  rw [e0'] at h p0
  simp only at h p0
  have p1 := (rNum_pos xs t0 63 hz p0 (by decide)).1
  obtain ⟨v1, t1, e1'⟩ : ∃ a t, rNum xs t0 63 = (a, t) := ⟨_, _, rfl⟩
  rw [e1'] at p1; simp only at p1
  rw [show rdBody xs ({ ({ zeroD with kind := 1 } : DeedD) with acct := a }) t0 0 = ({ zeroD with kind := 1, acct := a, to := v1 }, t1, 0) from by simp [rdBody, e1']] at h
  obtain ⟨_, g0, g⟩ := amt_got hz p1 h
  rcases g with ⟨g, _⟩ | ⟨_, c, m1, m2, rfl, m3, m4⟩
  · simp [paidD, wi, zeroD] at g
  simp only at g0
  obtain ⟨z1, a1, b1, c1, d1⟩ := num_got hz p0 e1' g0
  obtain ⟨e0, a0, b0, c0', d0⟩ := num_got hz hs e0' z1
  exact ⟨e0, m4, right_of (by simp only [zeroD]; omega) (by simp [bareD, zeroD]) (by simp only [zeroD]; omega) (by simp only [zeroD]; omega) (by simp only [zeroD]; omega) (by simp only [zeroD]; omega) (by simp [paidD, wi, zeroD]; omega) (by simp only [zeroD]; omega) (by simp only [zeroD]; omega) (by simp [zeroD]) (fun h => by simp at h), ⟨fun y hy => by simp only [zeroD, List.mem_cons, List.not_mem_nil, or_false] at hy; omega, ⟨by simp only [zeroD]; omega, by simp only [zeroD]; omega⟩, zeroP_ok⟩, by simp [zeroD], formN a.toNat ++ (formN v1.toNat ++ (formN c.toNat)), by simp [encD, paidD, wi, zeroD], by rw [c0', c1, m3]; simp⟩

theorem sound2 {xs : List Int} (hz : ∀ z ∈ xs, 0 ≤ z ∧ z ≤ 255) {s : Nat × Int} (hs : s.1 ≤ xs.length) {d : DeedD} {k : Nat} (h : rdFields xs ({ zeroD with kind := 2 }) s 0 = (d, (k, 0), 0)) : SoundAt xs s 2 d k := by
  rw [rdFields_ok (by simp)] at h
  have p0 := (rNum_pos xs s 63 hz hs (by decide)).1
  obtain ⟨a, t0, e0'⟩ : ∃ a t, rNum xs s 63 = (a, t) := ⟨_, _, rfl⟩
  rw [e0'] at h p0
  simp only at h p0
  rw [show rdBody xs ({ ({ zeroD with kind := 2 } : DeedD) with acct := a }) t0 0 = ({ zeroD with kind := 2, acct := a }, t0, 0) from by simp [rdBody]] at h
  obtain ⟨_, g0, g⟩ := amt_got hz p0 h
  rcases g with ⟨g, _⟩ | ⟨_, c, m1, m2, rfl, m3, m4⟩
  · simp [paidD, wi, zeroD] at g
  simp only at g0
  obtain ⟨e0, a0, b0, c0', d0⟩ := num_got hz hs e0' g0
  exact ⟨e0, m4, right_of (by simp only [zeroD]; omega) (by simp [bareD, zeroD]) (by simp only [zeroD]; omega) (by simp only [zeroD]; omega) (by simp only [zeroD]; omega) (by simp only [zeroD]; omega) (by simp [paidD, wi, zeroD]; omega) (by simp only [zeroD]; omega) (by simp only [zeroD]; omega) (by simp [zeroD]) (fun h => by simp at h), ⟨fun y hy => by simp only [zeroD, List.mem_cons, List.not_mem_nil, or_false] at hy; omega, ⟨by simp only [zeroD]; omega, by simp only [zeroD]; omega⟩, zeroP_ok⟩, by simp [zeroD], formN a.toNat ++ (formN c.toNat), by simp [encD, paidD, wi, zeroD], by rw [c0', m3]; simp⟩

theorem sound3 {xs : List Int} (hz : ∀ z ∈ xs, 0 ≤ z ∧ z ≤ 255) {s : Nat × Int} (hs : s.1 ≤ xs.length) {d : DeedD} {k : Nat} (h : rdFields xs ({ zeroD with kind := 3 }) s 0 = (d, (k, 0), 0)) : SoundAt xs s 3 d k := by
  rw [rdFields_ok (by simp)] at h
  have p0 := (rNum_pos xs s 63 hz hs (by decide)).1
  obtain ⟨a, t0, e0'⟩ : ∃ a t, rNum xs s 63 = (a, t) := ⟨_, _, rfl⟩
  rw [e0'] at h p0
  simp only at h p0
  have p1 := (rNum_pos xs t0 127 hz p0 (by decide)).1
  obtain ⟨v1, t1, e1'⟩ : ∃ a t, rNum xs t0 127 = (a, t) := ⟨_, _, rfl⟩
  rw [e1'] at p1; simp only at p1
  rw [show rdBody xs ({ ({ zeroD with kind := 3 } : DeedD) with acct := a }) t0 0 = ({ zeroD with kind := 3, acct := a, mem := v1 }, t1, 0) from by simp [rdBody, e1']] at h
  obtain ⟨_, g0, g⟩ := amt_got hz p1 h
  rcases g with ⟨g, _⟩ | ⟨_, c, m1, m2, rfl, m3, m4⟩
  · simp [paidD, wi, zeroD] at g
  simp only at g0
  obtain ⟨z1, a1, b1, c1, d1⟩ := num_got hz p0 e1' g0
  obtain ⟨e0, a0, b0, c0', d0⟩ := num_got hz hs e0' z1
  exact ⟨e0, m4, right_of (by simp only [zeroD]; omega) (by simp [bareD, zeroD]) (by simp only [zeroD]; omega) (by simp only [zeroD]; omega) (by simp only [zeroD]; omega) (by simp only [zeroD]; omega) (by simp [paidD, wi, zeroD]; omega) (by simp only [zeroD]; omega) (by simp only [zeroD]; omega) (by simp [zeroD]) (fun h => by simp at h), ⟨fun y hy => by simp only [zeroD, List.mem_cons, List.not_mem_nil, or_false] at hy; omega, ⟨by simp only [zeroD]; omega, by simp only [zeroD]; omega⟩, zeroP_ok⟩, by simp [zeroD], formN a.toNat ++ (formN v1.toNat ++ (formN c.toNat)), by simp [encD, paidD, wi, zeroD], by rw [c0', c1, m3]; simp⟩

theorem sound4 {xs : List Int} (hz : ∀ z ∈ xs, 0 ≤ z ∧ z ≤ 255) {s : Nat × Int} (hs : s.1 ≤ xs.length) {d : DeedD} {k : Nat} (h : rdFields xs ({ zeroD with kind := 4 }) s 0 = (d, (k, 0), 0)) : SoundAt xs s 4 d k := by
  rw [rdFields_ok (by simp)] at h
  have p0 := (rNum_pos xs s 63 hz hs (by decide)).1
  obtain ⟨a, t0, e0'⟩ : ∃ a t, rNum xs s 63 = (a, t) := ⟨_, _, rfl⟩
  rw [e0'] at h p0
  simp only at h p0
  have p1 := (rNum_pos xs t0 127 hz p0 (by decide)).1
  obtain ⟨v1, t1, e1'⟩ : ∃ a t, rNum xs t0 127 = (a, t) := ⟨_, _, rfl⟩
  rw [e1'] at p1; simp only at p1
  rw [show rdBody xs ({ ({ zeroD with kind := 4 } : DeedD) with acct := a }) t0 0 = ({ zeroD with kind := 4, acct := a, mem := v1 }, t1, 0) from by simp [rdBody, e1']] at h
  obtain ⟨_, g0, g⟩ := amt_got hz p1 h
  rcases g with ⟨_, rfl, g1⟩ | ⟨g, _⟩
  rotate_left
  · simp [paidD, wi, zeroD] at g
  simp only at g0 g1
  subst g1
  obtain ⟨z1, a1, b1, c1, d1⟩ := num_got hz p0 e1' g0
  obtain ⟨e0, a0, b0, c0', d0⟩ := num_got hz hs e0' z1
  exact ⟨e0, d1, right_of (by simp only [zeroD]; omega) (by simp [bareD, zeroD]) (by simp only [zeroD]; omega) (by simp only [zeroD]; omega) (by simp only [zeroD]; omega) (by simp only [zeroD]; omega) (by simp [paidD, wi, zeroD]) (by simp only [zeroD]; omega) (by simp only [zeroD]; omega) (by simp [zeroD]) (fun h => by simp at h), ⟨fun y hy => by simp only [zeroD, List.mem_cons, List.not_mem_nil, or_false] at hy; omega, ⟨by simp only [zeroD]; omega, by simp only [zeroD]; omega⟩, zeroP_ok⟩, by simp [zeroD], formN a.toNat ++ (formN v1.toNat), by simp [encD, paidD, wi, zeroD], by rw [c0', c1]; simp⟩

theorem sound7 {xs : List Int} (hz : ∀ z ∈ xs, 0 ≤ z ∧ z ≤ 255) {s : Nat × Int} (hs : s.1 ≤ xs.length) {d : DeedD} {k : Nat} (h : rdFields xs ({ zeroD with kind := 7 }) s 0 = (d, (k, 0), 0)) : SoundAt xs s 7 d k := by
  rw [rdFields_ok (by simp)] at h
  have p0 := (rNum_pos xs s 63 hz hs (by decide)).1
  obtain ⟨a, t0, e0'⟩ : ∃ a t, rNum xs s 63 = (a, t) := ⟨_, _, rfl⟩
  rw [e0'] at h p0
  simp only at h p0
  have p1 := (rNum_pos xs t0 127 hz p0 (by decide)).1
  obtain ⟨v1, t1, e1'⟩ : ∃ a t, rNum xs t0 127 = (a, t) := ⟨_, _, rfl⟩
  rw [e1'] at p1; simp only at p1
  have p2 := (rNum_pos xs t1 31 hz p1 (by decide)).1
  obtain ⟨v2, t2, e2'⟩ : ∃ a t, rNum xs t1 31 = (a, t) := ⟨_, _, rfl⟩
  rw [e2'] at p2; simp only at p2
  have p3 := (rNum_pos xs t2 1 hz p2 (by decide)).1
  obtain ⟨v3, t3, e3'⟩ : ∃ a t, rNum xs t2 1 = (a, t) := ⟨_, _, rfl⟩
  rw [e3'] at p3; simp only at p3
  rw [show rdBody xs ({ ({ zeroD with kind := 7 } : DeedD) with acct := a }) t0 0 = ({ zeroD with kind := 7, acct := a, mem := v1, mot := v2, yes := decide (v3 = 1) }, t3, 0) from by simp [rdBody, e1', e2', e3']] at h
  obtain ⟨_, g0, g⟩ := amt_got hz p3 h
  rcases g with ⟨_, rfl, g1⟩ | ⟨g, _⟩
  rotate_left
  · simp [paidD, wi, zeroD] at g
  simp only at g0 g1
  subst g1
  obtain ⟨z3, a3, b3, c3, d3⟩ := num_got hz p2 e3' g0
  obtain ⟨z2, a2, b2, c2, d2⟩ := num_got hz p1 e2' z3
  obtain ⟨z1, a1, b1, c1, d1⟩ := num_got hz p0 e1' z2
  obtain ⟨e0, a0, b0, c0', d0⟩ := num_got hz hs e0' z1
  have hy : ((decide (v3 = 1)).toNat : Nat) = v3.toNat := by
    rcases (by omega : v3 = 0 ∨ v3 = 1) with rfl | rfl <;> rfl
  exact ⟨e0, d3, right_of (by simp only [zeroD]; omega) (by simp [bareD, zeroD]) (by simp only [zeroD]; omega) (by simp only [zeroD]; omega) (by simp only [zeroD]; omega) (by simp only [zeroD]; omega) (by simp [paidD, wi, zeroD]) (by simp only [zeroD]; omega) (by simp only [zeroD]; omega) (by simp [zeroD]) (fun h => by simp at h), ⟨fun y hy => by simp only [zeroD, List.mem_cons, List.not_mem_nil, or_false] at hy; omega, ⟨by simp only [zeroD]; omega, by simp only [zeroD]; omega⟩, zeroP_ok⟩, by simp [zeroD], formN a.toNat ++ (formN v1.toNat ++ (formN v2.toNat ++ (formN v3.toNat))), by simp [encD, paidD, wi, zeroD, hy], by rw [c0', c1, c2, c3]; simp⟩

theorem sound5 {xs : List Int} (hz : ∀ z ∈ xs, 0 ≤ z ∧ z ≤ 255) {s : Nat × Int} (hs : s.1 ≤ xs.length) {d : DeedD} {k : Nat} (h : rdFields xs ({ zeroD with kind := 5 }) s 0 = (d, (k, 0), 0)) : SoundAt xs s 5 d k := by
  have p0 := (rNum_pos xs s 1073741824 hz hs (by decide)).1
  obtain ⟨a, t0, e0'⟩ : ∃ a t, rNum xs s 1073741824 = (a, t) := ⟨_, _, rfl⟩
  obtain ⟨bs, t1, e1'⟩ : ∃ a t, rRaw xs t0 32 = (a, t) := ⟨_, _, rfl⟩
  rw [show rdFields xs ({ zeroD with kind := 5 }) s 0 = ({ zeroD with kind := 5, ep := a, bits := bs }, t1, 0) from by simp [rdFields, e0', e1']] at h
  injection h with h1 h2
  injection h2 with h2 _
  subst h1
  subst h2
  rw [e0'] at p0
  simp only at p0
  obtain ⟨z1, a1, c1', d1, _⟩ := rRaw_sound hz p0 e1'
  obtain ⟨e0, a0, b0, c0', d0⟩ := num_got hz hs e0' z1
  have hbs : ∀ y ∈ bs, 0 ≤ y ∧ y ≤ 255 := fun y hy => hz y (List.mem_of_mem_drop (i := t0.1) (by rw [c1', rawN]; simp [hy]))
  exact ⟨e0, d1, right_of (by simp only [zeroD]; omega) (by simp [bareD, zeroD]) (by simp only [zeroD]; omega) (by simp only [zeroD]; omega) (by simp only [zeroD]; omega) (by simp only [zeroD]; omega) (by simp [paidD, wi, zeroD]) (by simp only [zeroD]; omega) (by simp only [zeroD]; omega) a1 (fun h => by simp at h), ⟨fun y hy => by simp only [zeroD, List.mem_cons, List.not_mem_nil, or_false] at hy; omega, ⟨by simp only [zeroD]; omega, by simp only [zeroD]; omega⟩, zeroP_ok⟩, hbs, formN a.toNat ++ rawN bs, by simp [encD, paidD, wi, zeroD], by rw [c0', c1']; simp⟩
theorem sound6 {xs : List Int} (hz : ∀ z ∈ xs, 0 ≤ z ∧ z ≤ 255) {s : Nat × Int} (hs : s.1 ≤ xs.length) {d : DeedD} {k : Nat} (h : rdFields xs ({ zeroD with kind := 6 }) s 0 = (d, (k, 0), 0)) : SoundAt xs s 6 d k := by
  rw [rdFields_ok (by simp)] at h
  have p0 := (rNum_pos xs s 63 hz hs (by decide)).1
  obtain ⟨a, t0, e0'⟩ : ∃ a t, rNum xs s 63 = (a, t) := ⟨_, _, rfl⟩
  rw [e0'] at h p0
  simp only at h p0
  have p1 := (rNum_pos xs t0 255 hz p0 (by decide)).1
  obtain ⟨w, t1, e1'⟩ : ∃ a t, rNum xs t0 255 = (a, t) := ⟨_, _, rfl⟩
  rw [e1'] at p1; simp only at p1
  rw [show rdBody xs ({ ({ zeroD with kind := 6 } : DeedD) with acct := a }) t0 0 = rdMove xs ({ ({ zeroD with kind := 6 } : DeedD) with acct := a }) t0 0 from by simp [rdBody]] at h
  simp only [rdMove, e1'] at h
  by_cases cc : must (wi w 1 4) 80 0 t1.2 = 0 ∧ t1.2 = 0
  rotate_left
  · rw [if_neg cc] at h
    obtain ⟨g1, g0, _⟩ := amt_got hz p1 h
    exact absurd ⟨g1, g0⟩ cc
  rw [if_pos cc, cc.1] at h
  have hw := wi_iff.1 (must_z (by decide) cc.2 rfl cc.1)
  obtain ⟨z1, a1, b1, c1', d1⟩ := num_got hz p0 e1' cc.2
  obtain ⟨e0, a0, b0, c0', d0⟩ := num_got hz hs e0' z1
  by_cases w1 : w = 1
  · subst w1
    rw [if_pos rfl] at h
    have pp := rPar_ok (s := t1) hz p1
    obtain ⟨g1, g0, g⟩ := amt_got hz pp.2 h
    simp only at g1 g0
    have hpr := of_decide_eq_true (must_z (by decide) g0 rfl g1)
    rcases g with ⟨_, rfl, g2⟩ | ⟨g, _⟩
    rotate_left
    · simp [paidD, wi, zeroD] at g
    simp only at g2
    obtain ⟨z2, c2', d2⟩ := rPar_sound hz p1 g2
    have hpd : (pRead xs t1).1 = (rPar xs t1).1 ∧ parR (rPar xs t1).1 = true := by
      unfold pRead at hpr ⊢
      rw [if_neg (by rw [g0]; simp)] at hpr ⊢
      by_cases hr : parR (rPar xs t1).1 = true
      · rw [if_pos hr]; exact ⟨rfl, hr⟩
      · rw [if_neg hr] at hpr; simp at hpr
    rw [hpd.1]
    exact ⟨e0, d2, right_of (by simp only [zeroD]; omega) (by simp [bareD, zeroD]) (by simp only [zeroD]; omega) (by simp only [zeroD]; omega) (by simp only [zeroD]; omega) (by simp only [zeroD]; omega) (by simp [paidD, wi, zeroD]) (by simp only [zeroD]; omega) (by simp only [zeroD]; omega) (by simp [zeroD]) (fun _ => ⟨by simp, fun _ => hpd.2⟩), ⟨fun y hy => by simp only [zeroD, List.mem_cons, List.not_mem_nil, or_false] at hy; omega, ⟨by simp only [zeroD]; omega, by simp only [zeroD]; omega⟩, pp.1⟩, by simp [zeroD], formN a.toNat ++ (formN 1 ++ encP (rPar xs t1).1), by simp [encD, paidD, wi, zeroD], by rw [c0', c1', c2']; simp⟩
  rw [if_neg w1] at h
  by_cases w2 : w = 2
  · subst w2
    rw [if_pos rfl] at h
    have p2 := (rNum_pos xs t1 63 hz p1 (by decide)).1
    obtain ⟨v, t2, e2'⟩ : ∃ a t, rNum xs t1 63 = (a, t) := ⟨_, _, rfl⟩
    rw [e2'] at h p2
    simp only at h p2
    obtain ⟨_, g0, g⟩ := amt_got hz p2 h
    rcases g with ⟨g, _⟩ | ⟨_, c, m1, m2, rfl, m3, m4⟩
    · simp [paidD, wi, zeroD] at g
    simp only at g0 m3
    obtain ⟨z2, a2, b2, c2', d2⟩ := num_got hz p1 e2' g0
    exact ⟨e0, m4, right_of (by simp only [zeroD]; omega) (by simp [bareD, zeroD]) (by simp only [zeroD]; omega) (by simp only [zeroD]; omega) (by simp only [zeroD]; omega) (by simp only [zeroD]; omega) (by simp [paidD, wi, zeroD]; omega) (by simp only [zeroD]; omega) (by simp only [zeroD]; omega) (by simp [zeroD]) (fun _ => ⟨by simp, fun h => by simp at h⟩), ⟨fun y hy => by simp only [zeroD, List.mem_cons, List.not_mem_nil, or_false] at hy; omega, ⟨by simp only [zeroD]; omega, by simp only [zeroD]; omega⟩, zeroP_ok⟩, by simp [zeroD], formN a.toNat ++ (formN 2 ++ (formN v.toNat ++ formN c.toNat)), by simp [encD, paidD, wi, zeroD], by rw [c0', c1', c2', m3]; simp⟩
  rw [if_neg w2] at h
  obtain ⟨_, g0, g⟩ := amt_got hz p1 h
  rcases g with ⟨_, rfl, g1⟩ | ⟨g, _⟩
  rotate_left
  · simp [paidD, wi, zeroD, w2] at g
  simp only at g1
  subst g1
  exact ⟨e0, d1, right_of (by simp only [zeroD]; omega) (by simp [bareD, zeroD, w1, w2]) (by simp only [zeroD]; omega) (by simp only [zeroD]; omega) (by simp only [zeroD]; omega) (by simp only [zeroD]; omega) (by simp [paidD, wi, zeroD, w2]) (by simp only [zeroD]; omega) (by simp only [zeroD]; omega) (by simp [zeroD]) (fun _ => ⟨hw, fun h => absurd h w1⟩), ⟨fun y hy => by simp only [zeroD, List.mem_cons, List.not_mem_nil, or_false] at hy; omega, ⟨by simp only [zeroD]; omega, by simp only [zeroD]; omega⟩, zeroP_ok⟩, by simp [zeroD], formN a.toNat ++ formN w.toNat, by simp [encD, paidD, wi, zeroD, w1, w2], by rw [c0', c1']; simp⟩
/-- what is read is right, and has just these bytes -/
theorem rd_sound {xs : List Int} (hz : ∀ z ∈ xs, 0 ≤ z ∧ z ≤ 255) {s t : Nat × Int} (hs : s.1 ≤ xs.length) {d : DeedD} (h : rdDeed xs s = (d, 0, t)) :
    s.2 = 0 ∧ t.2 = 0 ∧ t.1 ≤ xs.length ∧ rightD d = true ∧ DeedOk d ∧ (∀ y ∈ d.bits, 0 ≤ y ∧ y ≤ 255) ∧ xs.drop s.1 = encD d ++ xs.drop t.1 := by
  simp only [rdDeed] at h
  split at h
  · rename_i c
    injection h with _ h2
    injection h2 with h2 _
    exact absurd h2 c
  rename_i c1
  split at h
  · rename_i c
    injection h with _ h2
    injection h2 with h2 _
    exact absurd h2 c
  rename_i c2
  injection h with h1 h2
  injection h2 with _ h2
  have t2 : t.2 = 0 := by rw [← h2]; omega
  have hall : rdAll xs s = (d, (t.1, 0), 0) := Prod.ext h1 (Prod.ext (by rw [h2, ← t2]) (by simp only; omega))
  have p0 := (rNum_pos xs s 255 hz hs (by decide)).1
  obtain ⟨z, t0, e0'⟩ : ∃ a t, rNum xs s 255 = (a, t) := ⟨_, _, rfl⟩
  rw [e0'] at p0
  simp only at p0
  simp only [rdAll, e0'] at hall
  by_cases cc : must (wi z 1 7) 80 0 t0.2 = 0 ∧ t0.2 = 0
  rotate_left
  · rw [if_neg cc] at hall
    injection hall with _ hq
    injection hq with hq1 hq2
    exact absurd ⟨hq2, by rw [hq1]⟩ cc
  rw [if_pos cc, cc.1] at hall
  have hw := wi_iff.1 (must_z (by decide) cc.2 rfl cc.1)
  obtain ⟨e0, a0, b0, c0', d0⟩ := num_got hz hs e0' cc.2
  have key : SoundAt xs t0 z d t.1 := by
    rcases (by omega : z = 1 ∨ z = 2 ∨ z = 3 ∨ z = 4 ∨ z = 5 ∨ z = 6 ∨ z = 7) with rfl | rfl | rfl | rfl | rfl | rfl | rfl
    · exact sound1 hz p0 hall
    · exact sound2 hz p0 hall
    · exact sound3 hz p0 hall
    · exact sound4 hz p0 hall
    · exact sound5 hz p0 hall
    · exact sound6 hz p0 hall
    · exact sound7 hz p0 hall
  obtain ⟨_, k1, k2, k3, k4, b, k5, k6⟩ := key
  refine ⟨e0, t2, k1, k2, k3, k4, ?_⟩
  rw [c0', k6, k5, List.append_assoc]
/-- what is decoded is right, and has just these bytes -/
theorem ddec_sound {xs : List Int} (hz : ∀ z ∈ xs, 0 ≤ z ∧ z ≤ 255) (h : (ddec xs).2 = 0) : rightD (ddec xs).1 = true ∧ DeedOk (ddec xs).1 ∧ encD (ddec xs).1 = xs := by
  obtain ⟨d, e, t, hq⟩ : ∃ d e t, rdDeed xs (0, 0) = (d, e, t) := ⟨_, _, _, rfl⟩
  simp only [ddec, hq] at h ⊢
  by_cases c1 : e = 0
  · subst c1
    rw [if_neg (by simp)] at h ⊢
    obtain ⟨_, t2, t1, r1, r2, _, r3⟩ := rd_sound hz (Nat.zero_le _) hq
    by_cases c2 : rDone xs t = 0
    · rw [if_neg (by simpa using c2)]
      refine ⟨r1, r2, ?_⟩
      simp only [rDone] at c2
      by_cases hl : t.1 < xs.length
      · rw [if_pos ⟨t2, hl⟩] at c2; simp at c2
      · simp only [List.drop_zero] at r3
        rw [List.drop_eq_nil_of_le (by omega), List.append_nil] at r3
        exact r3.symm
    · rw [if_pos (by simpa using c2)] at h
      exact absurd h c2
  · rw [if_pos (by simpa using c1)] at h
    exact absurd h c1
/-- what is not decoded is no deed -/
theorem ddec_none {xs : List Int} (h : (ddec xs).2 ≠ 0) : (ddec xs).1 = zeroD := by
  simp only [ddec] at h ⊢
  split
  · rfl
  · rename_i c
    rw [if_neg c] at h
    split
    · rfl
    · rename_i c2
      rw [if_neg c2] at h
      simp at h
end Go.X

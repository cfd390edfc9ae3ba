/- Contracts of what makes certificates anew: slices.Clone, bits' own and Set, (cert.Cert).own, Sign. Conditions: the values read as certificates, lists not too long. -/
import Derived.Test.YtfilkbfkhdaakaaGreatWF
import Derived.Test.YtfilkbfkhdaakaaGreatWD
import Derived.Test.YtfilkbfkhdaakaaGreatWA
import Derived.Test.YtfilkbfkhdaakaaGreatPlainA
set_option linter.unusedVariables false
set_option linter.unusedSimpArgs false
namespace Go.X
open Go.RowKit Go.Proofs Go.Bl
variable {L : Own} {h : PH} {K : PK}

theorem clone8_any {xs : List Int} (v : Value) (hx : Ints h .u8 v xs) (hl : xs.length ≤ 1000) (hk : ∀ h' r, PH.le h h' → Ints h' .u8 r xs → K r L h') : Spec Tryz.prog 200 [v] L h K := by
  have ox := hx.open
  obtain ⟨a, ca, rfl, hna, hca, h0, hcx⟩ := ox
  refine x_enter Tryz.func200 rfl (rs := [_]) rfl rfl mixed (by kernel_rfl) rfl rfl ?_
  simp -dsimp -implicitDefEqProofs (disch := first | with_reducible assumption | omega) [go_sem]
  cases ha : a.isNone with
  | true =>
    have ha' : a = none := by simpa using ha
    subst ha'
    have hl0 : xs.length = 0 := by have := h0 rfl; omega
    have hx' : xs = [] := List.eq_nil_of_length_eq_zero hl0
    subst hx'
    simp -dsimp -implicitDefEqProofs (disch := first | with_reducible assumption | omega) [go_sem]
    refine fin_here (hk h _ (PH.le_refl h) ?_)
    rw [h0 rfl] at hx
    exact hx
  | false =>
    simp -dsimp -implicitDefEqProofs (disch := first | with_reducible assumption | omega) [go_sem]
    refine xnew fun b1 n_b1 h_b1 => ?_
    try simp only [Apart] at n_b1
    simp -dsimp -implicitDefEqProofs (disch := first | with_reducible assumption | omega) [go_sem]
    refine xappend (t := 31) (e := 5) (sz := 1) (bytes := 1) (z := [.int .u8 0]) (by kernel_rfl) tI_5 rfl rfl rfl rfl (by decide) [] L (some (b1, 0)) 0 [] ⟨Nat.le_refl _, Nat.zero_le _⟩ rfl (Src.known hx.1) (by simp) (ints_one _ _) (by simp [maxLen]; omega) (by omega) ?_
    intro o' j1 j2 j3
    simp only [Nat.zero_add, List.nil_append] at j1 j2 ⊢
    simp -dsimp -implicitDefEqProofs (disch := first | with_reducible assumption | omega) [go_sem]
    exact fin_pub (n := xs.length) j1 (by simp) (by omega) j2 fun h' le sl => fin_here (hk h' _ le ⟨sl, hx.2⟩)
theorem clone64_any {xs : List Int} (v : Value) (hx : Ints h .u64 v xs) (hl : xs.length ≤ 1000) (hk : ∀ h' r, PH.le h h' → Ints h' .u64 r xs → K r L h') : Spec Tryz.prog 155 [v] L h K := by
  have ox := hx.open
  obtain ⟨a, ca, rfl, hna, hca, h0, hcx⟩ := ox
  refine x_enter Tryz.func155 rfl (rs := [_]) rfl rfl mixed (by kernel_rfl) rfl rfl ?_
  simp -dsimp -implicitDefEqProofs (disch := first | with_reducible assumption | omega) [go_sem]
  cases ha : a.isNone with
  | true =>
    have ha' : a = none := by simpa using ha
    subst ha'
    have hl0 : xs.length = 0 := by have := h0 rfl; omega
    have hx' : xs = [] := List.eq_nil_of_length_eq_zero hl0
    subst hx'
    simp -dsimp -implicitDefEqProofs (disch := first | with_reducible assumption | omega) [go_sem]
    refine fin_here (hk h _ (PH.le_refl h) ?_)
    rw [h0 rfl] at hx
    exact hx
  | false =>
    simp -dsimp -implicitDefEqProofs (disch := first | with_reducible assumption | omega) [go_sem]
    refine xnew fun b1 n_b1 h_b1 => ?_
    try simp only [Apart] at n_b1
    simp -dsimp -implicitDefEqProofs (disch := first | with_reducible assumption | omega) [go_sem]
    refine xappend (t := 25) (e := 22) (sz := 1) (bytes := 8) (z := [.int .u64 0]) (by kernel_rfl) tI_22 rfl rfl rfl rfl (by decide) [] L (some (b1, 0)) 0 [] ⟨Nat.le_refl _, Nat.zero_le _⟩ rfl (Src.known hx.1) (by simp) (ints_one _ _) (by simp [maxLen]; omega) (by omega) ?_
    intro o' j1 j2 j3
    simp only [Nat.zero_add, List.nil_append] at j1 j2 ⊢
    simp -dsimp -implicitDefEqProofs (disch := first | with_reducible assumption | omega) [go_sem]
    exact fin_pub (n := xs.length) j1 (by simp) (by omega) j2 fun h' le sl => fin_here (hk h' _ le ⟨sl, hx.2⟩)
/-- a field in memory of its own: still the call's own -/
theorem bown_any {xs : List Int} (v : Value) (hx : Ints h .u8 v xs) (hl : xs.length ≤ 1000) (hk : ∀ o, okO o xs.length → apO o L h → (xs = [] → o = none) → K (ovs o xs.length) (oent 5 1 o (xs.map (Value.int .u8)) L) h) : Spec Tryz.prog 245 [v] L h K := by
  have ox := hx.open
  obtain ⟨a, ca, rfl, hna, hca, h0, hcx⟩ := ox
  refine x_enter Tryz.func245 rfl (rs := [_]) rfl rfl mixed (by kernel_rfl) rfl rfl ?_
  simp -dsimp -implicitDefEqProofs (disch := first | with_reducible assumption | omega) [go_sem]
  refine xappend (t := 274) (e := 5) (sz := 1) (bytes := 1) (z := [.int .u8 0]) (by kernel_rfl) tI_5 rfl rfl rfl rfl (by decide) [] L none 0 [] rfl rfl (Src.known hx.1) (by simp) (ints_one _ _) (by simp [maxLen]; omega) (by omega) ?_
  intro o' j1 j2 j3
  simp only [Nat.zero_add, List.nil_append] at j1 j2 ⊢
  simp -dsimp -implicitDefEqProofs (disch := first | with_reducible assumption | omega) [go_sem]
  exact fin_here (hk o' j1 j2 fun e => by subst e; exact j3.2 ⟨rfl, rfl⟩)
theorem own_any {c : CertD} (v : Value) (hc : IsCert h v c) (hl : c.st.length ≤ 1000) (hl' : c.bs.length ≤ 1000) (hk : ∀ h' r, PH.le h h' → IsCert h' r c → K r L h') : Spec Tryz.prog 166 [v] L h K := by
  have hc0 := hc
  obtain ⟨sv, bv, rfl, hs, hb, r1, r2, r3, r4⟩ := hc
  have os := hs.open
  obtain ⟨a, ca, rfl, _⟩ := os
  have ob := hb.open
  obtain ⟨b, cb, rfl, _⟩ := ob
  refine x_enter Tryz.func166 rfl (rs := [_]) rfl rfl mixed (by kernel_rfl) rfl rfl ?_
  simp -dsimp -implicitDefEqProofs (disch := first | with_reducible assumption | omega) [go_sem]
  refine xnew fun b1 n_b1 h_b1 => ?_
  try simp only [Apart] at n_b1
  simp -dsimp -implicitDefEqProofs (disch := first | with_reducible assumption | omega) [go_sem]
  refine xnew fun b2 n_b2 h_b2 => ?_
  try simp only [Apart] at n_b2
  simp -dsimp -implicitDefEqProofs (disch := first | with_reducible assumption | omega) [go_sem]
  refine xany (.tk 0 (.tk 3 (.or true 1 (.or true 2 (.or true 4 (.tk 6 (.or true 5 (.or false 7 (.tk 8 (.or false 9 (.fin) (.nil))) (.nil)) (.nil))) (.nil)) (.or true 4 (.or true 2 (.tk 6 (.or true 5 (.or false 7 (.tk 8 (.or false 9 (.fin) (.nil))) (.nil)) (.nil))) (.nil)) (.nil))) (.or true 4 (.or true 1 (.or true 2 (.tk 6 (.or true 5 (.or false 7 (.tk 8 (.or false 9 (.fin) (.nil))) (.nil)) (.nil))) (.nil)) (.nil)) (.nil))))) (by kernel_rfl) (by kernel_rfl) ?_
  simp -dsimp -implicitDefEqProofs (disch := first | with_reducible assumption | omega) [go_sem]
  refine xpl_or ?_ ?_
  · simp -dsimp -implicitDefEqProofs (disch := first | with_reducible assumption | omega) [go_sem]
    refine xpl_or ?_ ?_
    all_goals
      simp -dsimp -implicitDefEqProofs (disch := first | with_reducible assumption | omega) [go_sem]
      refine Spec.ap (clone64_any _ hs hl fun h1 r1 le1 i1 ap => ?_)
      simp only [Ap] at ap
      obtain ⟨a2, a1, _⟩ := ap
      have o1 := i1.open
      obtain ⟨x1, y1, rfl, _⟩ := o1
      simp -dsimp -implicitDefEqProofs (disch := first | with_reducible assumption | omega) [go_sem]
      refine Spec.ap (clone8_any _ (hb.up le1) hl' fun h2 r2 le2 i2 ap => ?_)
      simp only [Ap] at ap
      obtain ⟨a2', a1', _⟩ := ap
      have o2 := i2.open
      obtain ⟨x2, y2, rfl, _⟩ := o2
      simp -dsimp -implicitDefEqProofs (disch := first | with_reducible assumption | omega) [go_sem]
      exact fin_tail (fin_tail (fin_here (hk h2 _ (le1.trans le2) ⟨_, _, rfl, i1.up le2, i2, r1, r2, r3, r4⟩)))
  · simp -dsimp -implicitDefEqProofs (disch := first | with_reducible assumption | omega) [go_sem]
    refine Spec.ap (clone64_any _ hs hl fun h1 r1 le1 i1 ap => ?_)
    simp only [Ap] at ap
    obtain ⟨a2, a1, _⟩ := ap
    have o1 := i1.open
    obtain ⟨x1, y1, rfl, _⟩ := o1
    simp -dsimp -implicitDefEqProofs (disch := first | with_reducible assumption | omega) [go_sem]
    refine Spec.ap (clone8_any _ (hb.up le1) hl' fun h2 r2 le2 i2 ap => ?_)
    simp only [Ap] at ap
    obtain ⟨a2', a1', _⟩ := ap
    have o2 := i2.open
    obtain ⟨x2, y2, rfl, _⟩ := o2
    simp -dsimp -implicitDefEqProofs (disch := first | with_reducible assumption | omega) [go_sem]
    exact fin_tail (fin_tail (fin_here (hk h2 _ (le1.trans le2) ⟨_, _, rfl, i1.up le2, i2, r1, r2, r3, r4⟩)))

/-- a byte with bit j 1 -/
def orB (x : Int) (j : Nat) : Int := bits .or .u8 x (2 ^ j % 256)
theorem orB_spec (x : Int) (j : Nat) (h0 : 0 ≤ x) (h1 : x ≤ 255) (hj : j < 8) : 0 ≤ orB x j ∧ orB x j ≤ 255 ∧ ∀ k, k < 8 → (orB x j / 2 ^ k % 2 = 1 ↔ k = j ∨ x / 2 ^ k % 2 = 1) := by
  obtain ⟨n, rfl⟩ := Int.eq_ofNat_of_zero_le h0
  have hn : n < 256 := by omega
  have key : ∀ j, j < 8 → ∀ n, n < 256 → ((n ||| 2 ^ j) ≤ 255 ∧ ∀ k, k < 8 → ((n ||| 2 ^ j) / 2 ^ k % 2 = 1 ↔ k = j ∨ n / 2 ^ k % 2 = 1)) := by decide +kernel
  have h2 : (2 : Int) ^ j % 256 = ((2 ^ j : Nat) : Int) := by
    have : ∀ i, i < 8 → (2 : Int) ^ i % 256 = ((2 ^ i : Nat) : Int) := by decide
    exact this j hj
  have h3 : (2 : Nat) ^ j < 256 := by
    have : ∀ i, i < 8 → (2 : Nat) ^ i < 256 := by decide
    exact this j hj
  have e : orB n j = ((n ||| 2 ^ j : Nat) : Int) := by
    unfold orB
    rw [h2]
    exact u8_or_nat n (2 ^ j) hn h3
  obtain ⟨k1, k2⟩ := key j hj n hn
  rw [e]
  refine ⟨by omega, by omega, fun k hk => ?_⟩
  have := k2 k hk
  constructor
  · intro h
    have h' : (n ||| 2 ^ j) / 2 ^ k % 2 = 1 := by exact_mod_cast h
    rcases this.1 h' with h | h
    · exact Or.inl h
    · exact Or.inr (by exact_mod_cast h)
  · intro h
    have h' : (n ||| 2 ^ j) / 2 ^ k % 2 = 1 := this.2 (h.imp id fun h => by exact_mod_cast h)
    exact_mod_cast h'
/-- bytes with bit i 1 -/
def setB (xs : List Int) (i : Int) : List Int := xs.set (i / 8).toNat (orB (at0 xs (i / 8).toNat) (i % 8).toNat)
theorem setB_range {xs : List Int} (hx : ∀ z ∈ xs, IntKind.u8.min ≤ z ∧ z ≤ IntKind.u8.max) (hb : ∀ i, 0 ≤ at0 xs i ∧ at0 xs i ≤ 255) (i : Int) : ∀ z ∈ setB xs i, IntKind.u8.min ≤ z ∧ z ≤ IntKind.u8.max := by
  intro z hz
  rcases List.mem_or_eq_of_mem_set hz with h | h
  · exact hx z h
  · subst h
    have := orB_spec (at0 xs (i / 8).toNat) (i % 8).toNat (hb _).1 (hb _).2 (by omega)
    rw [show IntKind.u8.min = 0 by decide, show IntKind.u8.max = 255 by decide]
    exact ⟨this.1, this.2.1⟩
set_option maxRecDepth 20000 in
theorem set_any {xs : List Int} (v : Value) (i : Int) (hx : Ints h .u8 v xs) (hl : xs.length ≤ 1000) (h0 : 0 ≤ i) (h1 : i / 8 < (xs.length : Int)) (h2 : i ≤ 9223372036854775807) (hk : ∀ h' r, PH.le h h' → Ints h' .u8 r (setB xs i) → K (.tuple #[r, .bool true]) L h') : Spec Tryz.prog 167 [v, .int .i64 i] L h K := by
  have hb := hx.byte
  refine x_enter Tryz.func167 rfl (rs := [_, _]) rfl rfl mixed (by kernel_rfl) rfl rfl ?_
  simp -dsimp -implicitDefEqProofs (disch := first | with_reducible assumption | omega) [go_sem]
  refine bown_any v hx hl fun o j1 j2 j3 => ?_
  simp -dsimp -implicitDefEqProofs (disch := first | with_reducible assumption | omega) [go_sem]
  cases o with
  | none =>
    have : xs.length = 0 := j1
    omega
  | some p =>
    obtain ⟨b, cap⟩ := p
    have hbn : h b = noC := j2.2
    simp only [ovs, oent]
    refine spot_yes _ _ _ _ h0 h1 h2 ?_
    have ej : (i / 8).toNat < xs.length := by omega
    simp -dsimp -implicitDefEqProofs (disch := first | with_reducible assumption | omega) [go_sem, xNth_ints]
    refine ⟨by omega, ?_⟩
    have eo : (⟨b, 5, (xs.map (Value.int .u8)).set (i / 8).toNat (Value.int .u8 (bits .or .u8 (at0 xs (i / 8).toNat) (2 ^ (i % 8).toNat % 256))), cap⟩ :: L : Own) = oent 5 1 (some (b, cap)) ((setB xs i).map (Value.int .u8)) L := by
      simp [oent, setB, orB, List.map_set]
    rw [eo]
    exact fin_pub (n := xs.length) j1 (by simp [setB]) (by omega) j2 fun h' le sl => fin_here (hk h' _ le ⟨by rw [show (setB xs i).length = xs.length by simp [setB]]; exact sl, setB_range hx.2 hb i⟩)
def zeroC : CertD := ⟨0, 0, [], []⟩
theorem zeroC_is (h : PH) : IsCert h (.agg #[.int .i64 0, .int .i64 0, .slice none 0 0, .slice none 0 0]) zeroC :=
  ⟨_, _, rfl, ⟨⟨rfl, none, 0, rfl, Nat.le_refl _, by decide, by decide, fun _ => rfl, fun j c hj => by simp [zeroC] at hj⟩, fun z hz => by simp [zeroC] at hz⟩,
    ⟨⟨rfl, none, 0, rfl, Nat.le_refl _, by decide, by decide, fun _ => rfl, fun j c hj => by simp [zeroC] at hj⟩, fun z hz => by simp [zeroC] at hz⟩, by decide, by decide, by decide, by decide⟩
/-- what Sign hands back -/
def signC (c : CertD) (i : Int) : CertD × Int :=
  if rightC c = false then (zeroC, 2) else if i < 0 ∨ c.mem ≤ i ∨ at0 c.st i.toNat = 0 then (zeroC, 190) else if getB c.bs i then (zeroC, 231) else ({ c with bs := setB c.bs i }, 0)
theorem rightC_len {c : CertD} (hr : rightC c = true) : (c.bs.length : Int) = (c.mem + 7) / 8 := by
  have := rightC_head hr
  simp only [headC, rightB, Bool.and_eq_true, decide_eq_true_eq] at this
  exact this.2.1.2.2
set_option maxRecDepth 20000 in
theorem sign_any {c : CertD} (v : Value) (i : Int) (hc : IsCert h v c) (h1 : i ≤ 9223372036854775807) (hk : ∀ h' r, PH.le h h' → IsCert h' r (signC c i).1 → K (.tuple #[r, .int .i64 (signC c i).2]) L h') : Spec Tryz.prog 59 [v, .int .i64 i] L h K := by
  have hc0 := hc
  obtain ⟨sv, bv, rfl, hs, hb, r1, r2, r3, r4⟩ := hc
  have hsd := hs.word
  have os := hs.open
  obtain ⟨a, ca, rfl, _, _, _, hcx⟩ := os
  have ob := hb.open
  obtain ⟨b, cb, rfl, _⟩ := ob
  have bad : ∀ e, signC c i = (zeroC, e) → K (.tuple #[.agg #[.int .i64 0, .int .i64 0, .slice none 0 0, .slice none 0 0], .int .i64 e]) L h := fun e he => by
    have := hk h _ (PH.le_refl h) (by rw [he]; exact zeroC_is h)
    rwa [he] at this
  refine x_enter Tryz.func59 rfl (rs := [_, _]) rfl rfl mixed (by kernel_rfl) rfl rfl ?_
  simp -dsimp -implicitDefEqProofs (disch := first | with_reducible assumption | omega) [go_sem]
  refine xnew fun b1 n_b1 h_b1 => ?_
  try simp only [Apart] at n_b1
  simp -dsimp -implicitDefEqProofs (disch := first | with_reducible assumption | omega) [go_sem]
  refine xnew fun b2 n_b2 h_b2 => ?_
  try simp only [Apart] at n_b2
  simp -dsimp -implicitDefEqProofs (disch := first | with_reducible assumption | omega) [go_sem]
  refine check_any _ hc0 ?_
  cases hr : rightC c with
  | false =>
    simp -dsimp -implicitDefEqProofs (disch := first | with_reducible assumption | omega) [go_sem]
    exact fin_tail (fin_tail (fin_here (bad 2 (by simp [signC, hr]))))
  | true =>
    have hh := headC_facts (rightC_head hr)
    have hbl := rightC_len hr
    by_cases c1 : i < 0
    · simp -dsimp -implicitDefEqProofs (disch := first | with_reducible assumption | omega) [go_sem]
      exact fin_tail (fin_tail (fin_here (bad 190 (by simp [signC, hr, c1]))))
    by_cases c2 : c.mem ≤ i
    · simp -dsimp -implicitDefEqProofs (disch := first | with_reducible assumption | omega) [go_sem]
      exact fin_tail (fin_tail (fin_here (bad 190 (by simp [signC, hr, c2]))))
    by_cases c3 : at0 c.st i.toNat = 0
    · simp -dsimp -implicitDefEqProofs (disch := first | with_reducible assumption | omega) [go_sem, idx hcx]
      exact fin_tail (fin_tail (fin_here (bad 190 (by simp [signC, hr, c3]))))
    simp -dsimp -implicitDefEqProofs (disch := first | with_reducible assumption | omega) [go_sem, idx hcx]
    refine get_any _ _ hb h1 ?_
    cases hg : getB c.bs i with
    | true =>
      simp -dsimp -implicitDefEqProofs (disch := first | with_reducible assumption | omega) [go_sem]
      exact fin_tail (fin_tail (fin_here (bad 231 (by simp [signC, hr, c1, c2, c3, hg]))))
    | false =>
      have es : signC c i = ({ c with bs := setB c.bs i }, 0) := by simp [signC, hr, c1, c2, c3, hg]
      rw [es] at hk
      simp -dsimp -implicitDefEqProofs (disch := first | with_reducible assumption | omega) [go_sem]
      refine Spec.ap (own_any _ hc0 (by omega) (by omega) fun h2 r le2 ic ap => ?_)
      simp only [Ap] at ap
      obtain ⟨a2, a1, _⟩ := ap
      obtain ⟨sv', bv', rfl, hs', hb', _⟩ := ic
      have os' := hs'.open
      obtain ⟨a', ca', rfl, _⟩ := os'
      have ob' := hb'.open
      obtain ⟨b', cb', rfl, _⟩ := ob'
      simp -dsimp -implicitDefEqProofs (disch := first | with_reducible assumption | omega) [go_sem]
      refine xnew fun b3 n_b3 h_b3 => ?_
      try simp only [Apart] at n_b3
      simp -dsimp -implicitDefEqProofs (disch := first | with_reducible assumption | omega) [go_sem]
      refine Spec.ap (set_any _ i hb' (by omega) (by omega) (by omega) h1 fun h3 r le3 i3 ap => ?_)
      simp only [Ap] at ap
      obtain ⟨a3'', a2'', a1'', _⟩ := ap
      have o3 := i3.open
      obtain ⟨x3, y3, rfl, _⟩ := o3
      simp -dsimp -implicitDefEqProofs (disch := first | with_reducible assumption | omega) [go_sem]
      exact fin_tail (fin_tail (fin_tail (fin_here (hk h3 _ (le2.trans le3) ⟨_, _, rfl, hs'.up le3, i3, r1, r2, r3, r4⟩))))
end Go.X
/-! Contracts of bullionref06.Pack, bullionref40.with and bullionref40.Sign. Conditions: lists of at most some hundreds. -/
namespace Go.X
open Go.RowKit Go.Proofs Go.Bl
variable {L : Own} {h : PH} {K : PK}

def bol (bl : List Bool) (i : Nat) : Bool := bl.getD i false
def Bools (h : PH) (v : Value) (bl : List Bool) : Prop := Sl h v bl.length 1 (bl.map Value.bool)
theorem Bools.open {v : Value} {bl : List Bool} (hs : Bools h v bl) : ∃ a cap, v = .slice a bl.length cap ∧ bl.length ≤ cap ∧ (a = none → cap = 0) ∧ ∀ j, j < bl.length → elemCell h a j = some (.bool (bol bl j)) := by
  obtain ⟨_, a, cap, h2, h3, h4, h4', h5, h6⟩ := hs
  exact ⟨a, cap, h2, h3, h5, fun j hj => h6 j _ (by simp [bol, hj])⟩
/-- byte j of the bits from m on -/
def PackB (bl : List Bool) (m : Nat) (x : Int) (j : Nat) : Prop :=
  0 ≤ x ∧ x < 2 ^ (8 * j + 8 - max (8 * j) m) ∧ ∀ k, k < 8 * j + 8 - max (8 * j) m → (x / 2 ^ k % 2 = 1 ↔ bol bl (max (8 * j) m + k) = true)
theorem PackB.step {bl : List Bool} {m : Nat} {x : Int} {j : Nat} (hp : PackB bl (m + 1) x j) (hj : m / 8 = j) : 2 * x + (if bol bl m then 1 else 0) ≤ 255 ∧ PackB bl m (2 * x + if bol bl m then 1 else 0) j := by
  obtain ⟨h0, h1, h2⟩ := hp
  have e1 : max (8 * j) (m + 1) = m + 1 := by omega
  have e2 : max (8 * j) m = m := by omega
  obtain ⟨w, hw⟩ : ∃ w, 8 * j + 8 - (m + 1) = w := ⟨_, rfl⟩
  have hw2 : 8 * j + 8 - m = w + 1 := by omega
  have hw3 : w ≤ 7 := by omega
  rw [e1, hw] at h1 h2
  have hb : (0 : Int) ≤ (if bol bl m then 1 else 0) ∧ (if bol bl m then (1 : Int) else 0) ≤ 1 := by split <;> omega
  have hp : (2 : Int) ^ (w + 1) = 2 * 2 ^ w := by rw [Int.pow_succ, Int.mul_comm]
  have hp7 : (2 : Int) ^ w ≤ 128 := by
    have : ∀ w, w ≤ 7 → (2 : Int) ^ w ≤ 128 := by decide
    exact this w hw3
  have hc : (if bol bl m then (1 : Int) else 0) = 1 ↔ bol bl m = true := by split <;> rename_i hc <;> simp [hc]
  generalize (if bol bl m then (1 : Int) else 0) = c at hb hc ⊢
  refine ⟨by omega, by omega, ?_, ?_⟩
  · rw [e2, hw2, hp]; omega
  · intro k hk
    rw [e2, hw2] at hk
    rw [e2]
    cases k with
    | zero =>
      simp only [Int.pow_zero, Int.ediv_one, Nat.add_zero]
      rw [← hc]
      omega
    | succ k =>
      have e3 : (2 : Int) ^ (k + 1) = 2 * 2 ^ k := by rw [Int.pow_succ, Int.mul_comm]
      have e : (2 * x + c) / 2 ^ (k + 1) = x / 2 ^ k := by
        rw [e3, ← Int.ediv_ediv_of_nonneg (show (0 : Int) ≤ 2 by decide), show (2 * x + c) / 2 = x by omega]
      rw [e, h2 k (by omega), show m + 1 + k = m + (k + 1) by omega]
/-- bytes that no bit from m on reaches -/
theorem PackB.same {bl : List Bool} {m : Nat} {x : Int} {j : Nat} (hp : PackB bl (m + 1) x j) (hj : m / 8 ≠ j) : PackB bl m x j := by
  obtain ⟨h0, h1, h2⟩ := hp
  by_cases hlt : m < 8 * j
  · have e1 : max (8 * j) (m + 1) = 8 * j := by omega
    have e2 : max (8 * j) m = 8 * j := by omega
    rw [e1] at h1 h2
    exact ⟨h0, by rw [e2]; exact h1, by rw [e2]; exact h2⟩
  · have e1 : 8 * j + 8 - max (8 * j) (m + 1) = 0 := by omega
    have e2 : 8 * j + 8 - max (8 * j) m = 0 := by omega
    rw [e1] at h1 h2
    exact ⟨h0, by rw [e2]; exact h1, fun k hk => by rw [e2] at hk; omega⟩
theorem idxB {bl : List Bool} {a : Option Addr} (hc : ∀ j, j < bl.length → elemCell h a j = some (.bool (bol bl j))) : ∀ j, j < bl.length → elemCell h a j = some ((fun j => Value.bool (bol bl j)) j) := hc
end Go.X
/-! Contracts of bullionref40.with and bullionref40.Sign. Conditions: certificates; at most 256 places. -/
namespace Go.X
open Go.RowKit Go.Proofs Go.Bl
variable {L : Own} {h : PH} {K : PK}

theorem bol_append (bl : List Bool) (x : Bool) (i : Nat) : bol (bl ++ [x]) i = if i < bl.length then bol bl i else if i = bl.length then x else false := by
  simp only [bol, List.getD_eq_getElem?_getD]
  by_cases e : i < bl.length
  · simp [e, List.getElem?_append_left e]
  · rw [if_neg e, List.getElem?_append_right (by omega)]
    by_cases e2 : i = bl.length
    · subst e2; simp
    · rw [if_neg e2, List.getElem?_eq_none (by simp; omega)]; rfl
end Go.X
/-! Contract of bullionref40.Sign: it hands back what cert.Sign does. Conditions: the value reads as a certificate. -/
namespace Go.X
open Go.RowKit Go.Proofs Go.Bl
variable {L : Own} {h : PH} {K : PK}

theorem setB_byte {xs : List Int} (hb : ∀ i, 0 ≤ at0 xs i ∧ at0 xs i ≤ 255) (i : Int) (h1 : (i / 8).toNat < xs.length) (j : Nat) : 0 ≤ at0 (setB xs i) j ∧ at0 (setB xs i) j ≤ 255 := by
  unfold setB
  rw [at0_set _ _ _ _ h1]
  split
  · have := orB_spec (at0 xs (i / 8).toNat) (i % 8).toNat (hb _).1 (hb _).2 (by omega)
    exact ⟨this.1, this.2.1⟩
  · exact hb j
theorem getB_setB {xs : List Int} (hb : ∀ i, 0 ≤ at0 xs i ∧ at0 xs i ≤ 255) (i : Int) (h0 : 0 ≤ i) (h1 : i / 8 < (xs.length : Int)) (j : Nat) : getB (setB xs i) j = (decide ((j : Int) = i) || getB xs j) := by
  have hl : (setB xs i).length = xs.length := by simp [setB]
  by_cases hj : (j : Int) / 8 < (xs.length : Int)
  · rw [getB_in _ _ (by omega) (by omega), getB_in _ _ (by omega) (by omega)]
    unfold setB
    rw [at0_set _ _ _ _ (by omega)]
    by_cases e : ((j : Int) / 8).toNat = (i / 8).toNat
    · rw [if_pos e, e]
      have sp := (orB_spec (at0 xs (i / 8).toNat) (i % 8).toNat (hb _).1 (hb _).2 (by omega)).2.2 ((j : Int) % 8).toNat (by omega)
      rw [Bool.eq_iff_iff]
      simp only [Bool.or_eq_true, decide_eq_true_eq]
      rw [sp]
      constructor
      · intro h
        exact h.imp (fun h => by omega) id
      · intro h
        exact h.imp (fun h => by omega) id
    · rw [if_neg e]
      have : (j : Int) ≠ i := fun h => e (by rw [h])
      simp [this]
  · rw [getB_out _ _ (by omega), getB_out _ _ (by omega)]
    have : (j : Int) ≠ i := fun h => by omega
    simp [this]
theorem right_beyond {c : CertD} (hr : rightC c = true) (j : Nat) (hj : c.mem ≤ (j : Int)) : getB c.bs j = false := by
  have h1 := rightC_head hr
  simp only [headC, rightB, Bool.and_eq_true, decide_eq_true_eq, List.all_eq_true, List.mem_range, Bool.or_eq_true, Bool.not_eq_true'] at h1
  by_cases hl : j < 8 * c.bs.length
  · exact (h1.2.2 j hl).resolve_left (by omega)
  · exact getB_out _ _ (by omega)
theorem getB_nil (i : Int) : getB [] i = false := getB_out _ _ (by simp; omega)
end Go.X

/- Contracts of bits.fields, bits.Join, cert.merged, Merge of package cert and of bullionref40, and of bullionref40.Same. Conditions: certificates; fields of bits. -/
import Derived.Test.YtbobjcapmfpmkaaWM
set_option linter.unusedVariables false
set_option linter.unusedSimpArgs false
namespace Go.X
open Go.RowKit Go.Proofs Go.Bl
variable {L : Own} {h : PH} {K : PK}

theorem Sl.open1 {v : Value} {n : Nat} {cs : List Value} (hs : Sl h v n 1 cs) : ∃ a cap, v = .slice a n cap ∧ n ≤ cap ∧ cap ≤ 9223372036854775807 ∧ ∀ j, j < n → elemCell h a j = some (cs.getD j undef) := by
  obtain ⟨h1, a, cap, h2, h3, h4, h4', h5, h6⟩ := hs
  exact ⟨a, cap, h2, h3, h4, fun j hj => h6 j _ (by simp [List.getD_eq_getElem?_getD, show j < cs.length by omega])⟩
set_option maxRecDepth 20000 in
theorem fields_any {xs ys : List Int} (v x y : Value) (n : Int) (hv : Sl h v 2 1 [x, y]) (hx : Ints h .u8 x xs) (hy : Ints h .u8 y ys) (h1 : -9223372036854775808 ≤ n) (h2 : n ≤ 9223372036854775807)
    (hk : K (.bool (chkB xs n && chkB ys n)) L h) : Spec Try.prog 152 [.int .i64 n, v] L h K := by
  have ov := hv.open1
  obtain ⟨a, ca, rfl, _, _, hc⟩ := ov
  refine x_enter Try.func152 rfl (rs := [_]) rfl rfl mixed (by kernel_rfl) rfl rfl ?_
  simp -dsimp -implicitDefEqProofs (disch := first | with_reducible assumption | omega) [go_sem]
  refine xloop' (0 : Nat) (fun k => k ≤ 2 ∧ (0 < k → chkB xs n = true) ∧ (1 < k → chkB ys n = true)) (fun k => [(9, .int .i64 k), (7, .slice a 2 ca), (8, .int .i64 2), (0, .int .i64 n)]) (fun k => 2 - k) ?_ ?_ ?_
  · exact ⟨by omega, fun h => by omega, fun h => by omega⟩
  · simp [Ent, List.lookup, xEnv]
  intro k ⟨k1, k2, k3⟩
  by_cases d1 : k < 2
  · rcases (show k = 0 ∨ k = 1 by omega) with rfl | rfl
    · simp -dsimp -implicitDefEqProofs (disch := first | with_reducible assumption | omega) [go_sem, idx hc]
      refine chk_any _ _ hx h1 h2 ?_
      cases hr : chkB xs n with
      | false =>
        rw [hr, Bool.false_and] at hk
        simp -dsimp -implicitDefEqProofs (disch := first | with_reducible assumption | omega) [go_sem]
        exact fin_here hk
      | true =>
        simp -dsimp -implicitDefEqProofs (disch := first | with_reducible assumption | omega) [go_sem]
        exact ⟨1, by simp [hr], by omega, by simp [Ent, List.lookup], Drop.refl _ _⟩
    · have hr := k2 (by omega)
      simp -dsimp -implicitDefEqProofs (disch := first | with_reducible assumption | omega) [go_sem, idx hc]
      refine chk_any _ _ hy h1 h2 ?_
      cases hr' : chkB ys n with
      | false =>
        rw [hr', Bool.and_false] at hk
        simp -dsimp -implicitDefEqProofs (disch := first | with_reducible assumption | omega) [go_sem]
        exact fin_here hk
      | true =>
        simp -dsimp -implicitDefEqProofs (disch := first | with_reducible assumption | omega) [go_sem]
        exact ⟨2, by simp [hr, hr'], by omega, by simp [Ent, List.lookup], Drop.refl _ _⟩
  · have hk2 : k = 2 := by omega
    subst hk2
    rw [k2 (by omega), k3 (by omega)] at hk
    simp -dsimp -implicitDefEqProofs (disch := first | with_reducible assumption | omega) [go_sem]
    exact fin_here hk

/-- two bytes' bits, either's -/
def orW (x y : Int) : Int := bits .or .u8 x y
theorem orW_spec (x y : Int) (hx : 0 ≤ x ∧ x ≤ 255) (hy : 0 ≤ y ∧ y ≤ 255) : 0 ≤ orW x y ∧ orW x y ≤ 255 ∧ ∀ k, (orW x y / 2 ^ k % 2 = 1 ↔ x / 2 ^ k % 2 = 1 ∨ y / 2 ^ k % 2 = 1) := by
  obtain ⟨n, rfl⟩ := Int.eq_ofNat_of_zero_le hx.1
  obtain ⟨m, rfl⟩ := Int.eq_ofNat_of_zero_le hy.1
  have hn : n < 256 := by omega
  have hm : m < 256 := by omega
  have e : orW n m = ((n ||| m : Nat) : Int) := u8_or_nat n m hn hm
  have hlt : n ||| m < 2 ^ 8 := Nat.or_lt_two_pow hn hm
  rw [e]
  refine ⟨by omega, by omega, fun k => ?_⟩
  have tb : ∀ z : Nat, ((z : Int) / 2 ^ k % 2 = 1 ↔ z.testBit k = true) := fun z => by
    rw [Nat.testBit_eq_decide_div_mod_eq, decide_eq_true_eq]
    constructor
    · intro h; exact_mod_cast h
    · intro h; exact_mod_cast h
  rw [tb, tb, tb, Nat.testBit_or, Bool.or_eq_true]
set_option maxRecDepth 20000 in
theorem join_any {xs ys : List Int} (x y : Value) (n : Int) (hx : Ints h .u8 x xs) (hy : Ints h .u8 y ys) (h1 : 0 ≤ n) (h2 : n ≤ 256) (cx : chkB xs n = true) (cy : chkB ys n = true)
    (hk : ∀ h' r zs, PH.le h h' → Ints h' .u8 r zs → zs.length = xs.length → (∀ i : Nat, getB zs i = (getB xs i || getB ys i)) → K (.tuple #[r, .int .i64 0]) L h') : Spec Try.prog 130 [x, y, .int .i64 n] L h K := by
  have bx := hx.byte
  have by' := hy.byte
  have lx : xs.length = ys.length := by
    rw [chk_right _ _ bx] at cx
    rw [chk_right _ _ by'] at cy
    simp only [rightB, Bool.and_eq_true, decide_eq_true_eq] at cx cy
    omega
  have l33 : xs.length ≤ 1000 := by
    rw [chk_right _ _ bx] at cx
    simp only [rightB, Bool.and_eq_true, decide_eq_true_eq] at cx
    omega
  have ox := hx.open
  obtain ⟨a, ca, rfl, _⟩ := ox
  have oy := hy.open
  obtain ⟨b, cb, rfl, _⟩ := oy
  refine x_enter Try.func130 rfl (rs := [_, _]) rfl rfl mixed (by kernel_rfl) rfl rfl ?_
  simp -dsimp -implicitDefEqProofs (disch := first | with_reducible assumption | omega) [go_sem]
  refine xnew fun b1 n_b1 h_b1 => ?_
  try simp only [Apart] at n_b1
  simp -dsimp -implicitDefEqProofs (disch := first | with_reducible assumption | omega) [go_sem]
  refine call_pub_at (sz := 1) (n := 2) (cap := 2) [] ⟨Nat.le_refl _, by decide⟩ rfl (by decide) h_b1 fun h3 le3 s3 f3 => ?_
  refine fields_any _ _ _ n s3 (hx.up le3) (hy.up le3) (by omega) (by omega) ?_
  rw [cx, cy]
  simp -dsimp -implicitDefEqProofs (disch := first | with_reducible assumption | omega) [go_sem]
  refine bown_any _ (hx.up le3) l33 fun o j1 j2 j3 => ?_
  have oy3 := (hy.up le3).open
  obtain ⟨b', cb', eb, _, _, _, hcy⟩ := oy3
  injection eb with eb1 eb2 eb3
  subst eb1; subst eb3
  simp -dsimp -implicitDefEqProofs (disch := first | with_reducible assumption | omega) [go_sem]
  refine xloop (γ := Nat × List Int) (0, xs)
    (fun s => s.1 ≤ ys.length ∧ s.2.length = xs.length ∧ ∀ i, at0 s.2 i = if i < s.1 then orW (at0 xs i) (at0 ys i) else at0 xs i)
    (fun s => [(21, .int .i64 s.1), (19, .slice b ys.length cb), (20, .int .i64 ys.length), (8, ovs o xs.length)])
    (fun s => oent 5 1 o (s.2.map (Value.int .u8)) L) (fun _ => h3) (fun s => ys.length - s.1) ?_ ?_ ?_ ?_
  · exact ⟨Nat.zero_le _, rfl, fun i => by simp⟩
  · simp [Ent, List.lookup]
  · exact Drop.refl _ _
  rintro ⟨k, zs⟩ ⟨k1, k2, k3⟩
  simp only at k1 k2 k3
  simp -dsimp -implicitDefEqProofs (disch := first | with_reducible assumption | omega) [go_sem]
  refine xif_dec (fun c1 => ?_) (fun c1 => ?_)
  · cases o with
    | none =>
      have : xs.length = 0 := j1
      omega
    | some p =>
      obtain ⟨bb, cap⟩ := p
      have hbn : h3 bb = noC := j2.2
      have ek : at0 zs k = at0 xs k := by rw [k3 k]; simp
      simp only [ovs, oent]
      simp -dsimp -implicitDefEqProofs (disch := first | with_reducible assumption | omega) [go_sem, idx hcy, xNth_ints, ek]
      refine ⟨by omega, k + 1, zs.set k (orW (at0 xs k) (at0 ys k)), ⟨by omega, by simp [k2], fun i => ?_⟩, by omega, by simp [Ent, List.lookup], by rw [List.map_set]; exact Drop.refl _ _⟩
      rw [at0_set _ _ _ _ (by omega), k3 i]
      by_cases e : i = k
      · subst e; simp
      · rw [if_neg e]
        by_cases e2 : i < k
        · rw [if_pos e2, if_pos (by omega)]
        · rw [if_neg e2, if_neg (by omega)]
  · have hz : ∀ i, 0 ≤ at0 zs i ∧ at0 zs i ≤ 255 := fun i => by
      rw [k3 i]
      split
      · have := orW_spec _ _ (bx i) (by' i); exact ⟨this.1, this.2.1⟩
      · exact bx i
    have hr : ∀ z ∈ zs, IntKind.u8.min ≤ z ∧ z ≤ IntKind.u8.max := by
      intro z hz'
      obtain ⟨j, hj, rfl⟩ := List.mem_iff_getElem.1 hz'
      have := hz j
      rw [at0_lt hj, show IntKind.u8.min = 0 by decide, show IntKind.u8.max = 255 by decide]
      exact this
    simp -dsimp -implicitDefEqProofs (disch := first | with_reducible assumption | omega) [go_sem]
    refine fin_pub (n := xs.length) j1 (by simp [k2]) (by omega) j2 fun h4 le4 sl => fin_here (hk h4 _ zs (le3.trans le4) ⟨by rw [k2]; exact sl, hr⟩ k2 fun i => ?_)
    by_cases hi : (i : Int) / 8 < (zs.length : Int)
    · rw [getB_in _ _ (by omega) hi, getB_in _ _ (by omega) (by omega), getB_in _ _ (by omega) (by omega), k3, if_pos (by omega), Bool.eq_iff_iff]
      simp only [Bool.or_eq_true, decide_eq_true_eq]
      exact (orW_spec _ _ (bx _) (by' _)).2.2 _
    · rw [getB_out _ _ (by omega), getB_out _ _ (by omega), getB_out _ _ (by omega)]; rfl

theorem chk_of {zs : List Int} {n : Int} (hz : ∀ i, 0 ≤ at0 zs i ∧ at0 zs i ≤ 255) (h1 : 0 ≤ n) (h2 : n ≤ 256) (hl : (zs.length : Int) = (n + 7) / 8) (hb : ∀ j : Nat, n ≤ (j : Int) → getB zs j = false) : chkB zs n = true := by
  rw [chk_right _ _ hz]
  unfold rightB
  simp only [decide_eq_true (show 0 ≤ n ∧ n ≤ 256 ∧ (zs.length : Int) = (n + 7) / 8 from ⟨h1, h2, hl⟩), Bool.true_and, List.all_eq_true, Bool.or_eq_true, decide_eq_true_eq, Bool.not_eq_true']
  intro j _
  by_cases e : (j : Int) < n
  · exact Or.inl e
  · exact Or.inr (hb j (by omega))
theorem chk_beyond {zs : List Int} {n : Int} (hz : ∀ i, 0 ≤ at0 zs i ∧ at0 zs i ≤ 255) (hc : chkB zs n = true) (j : Nat) (hj : n ≤ (j : Int)) : getB zs j = false := by
  rw [chk_right _ _ hz] at hc
  simp only [rightB, Bool.and_eq_true, decide_eq_true_eq, List.all_eq_true, List.mem_range, Bool.or_eq_true, Bool.not_eq_true'] at hc
  by_cases hl : j < 8 * zs.length
  · exact (hc.2 j hl).resolve_left (by omega)
  · exact getB_out _ _ (by omega)
theorem at0_zeros (N i : Nat) : at0 (List.replicate N 0) i = 0 := by
  simp only [at0, List.getD_eq_getElem?_getD, List.getElem?_replicate]
  split <;> rfl
theorem getB_zeros (N i : Nat) : getB (List.replicate N 0) i = false := by
  unfold getB
  rw [at0_zeros]
  simp
end Go.X

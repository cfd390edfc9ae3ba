/- Arrays of numbers in own blocks, and two that are compared; the contract of block.Kinds. Conditions: the value reads as a list of deeds. -/
import Derived.Test.YtbobjcapmfpmkaaQB
import Derived.ChangeKeysEq
import Derived.Laws.StructEq
set_option linter.unusedVariables false
set_option linter.unusedSimpArgs false
namespace Go.X
open Go.RowKit Go.Bl
section
variable {P : Program}
@[go_sem] theorem xIA_arr (n e sz b o : Nat) (k : IntKind) (j : Int) (K : Value → Prop) (t : Tok K) (h0 : 0 ≤ j) (h1 : j < (n : Int)) :
    xIA (.ar n e sz) (.pointer (some ⟨b, o, none⟩)) (.int k j) K t = K (.pointer (some ⟨b, o + j.toNat * sz, none⟩)) := by
  apply propext; constructor
  · rintro ⟨q, k', j', e1, e2, _, _, hk⟩
    injection e1 with e1; injection e1 with e1; injection e2 with e5 e6
    subst e1; subst e6; rw [add_none] at hk; exact hk
  · intro hk; exact ⟨_, _, _, rfl, rfl, h0, h1, by rw [add_none]; exact hk⟩
theorem eqItems_same {e : Nat} {k : IntKind} (he : P.underlying e = some (.int k)) (d : Nat) (w : World) (xs : List Int) : ∀ is : List Nat, (∀ i ∈ is, i < xs.length) →
    (Op.eqItems (d + 1) e 1 (xs.map (Value.int k)).toArray (xs.map (Value.int k)).toArray is).run P w = .ok true w
  | [], _ => by simp [Op.eqItems]
  | i :: is, h => by
    have hi : i < xs.length := h i (by simp)
    have px : (part e (xs.map (Value.int k)).toArray (i * 1)).run P w = .ok (.int k xs[i]) w := by
      simp [part, isAgg, run_underlying he, hi]
    have ih := eqItems_same he d w xs is fun j hj => h j (by simp [hj])
    simp only [Op.eqItems, Sem.run_bind, px, Result.andThen_ok, run_equalIn_int w d e k k _ _ he]
    simp [ih]
theorem xBin_eqarr {T e n : Nat} {k : IntKind} {i : TypeInfo} (ht : P.underlying T = some (.array n e)) (he : P.underlying e = some (.int k)) (hi : P.info? e = some i) (hc : P.cellsOf e = 1) (hg : P.eqGuardType P.depth T = false) (xs : List Int) (hl : xs.length = n)
    (x y : Operand) (K : Value → Prop) (t : Tok K) : xBin P .eql T x y (.agg (xs.map (Value.int k)).toArray) (.agg (xs.map (Value.int k)).toArray) K t = K (.bool true) :=
  xRun_of (fun W => by
    have h1 := run_equalIn_array W 9999 (xs.map (Value.int k)).toArray (xs.map (Value.int k)).toArray ht hi
    rw [hc, eqItems_same he 9998 W xs (List.range n) fun i hi => by rw [hl]; exact List.mem_range.1 hi] at h1
    simp only [Sem.run_bind, run_eqGuard_agg W .eql T x y _ _ hg, Result.andThen_ok, run_eql_struct, h1]) K
end
open Go.Proofs
section
variable {L : Own} {h : PH} {K : PK}
theorem eq8 (z0 z1 z2 z3 z4 z5 z6 z7 : Int) (x y : Operand) (K : Value → Prop) (t : Tok K) :
    xBin Try.prog .eql 117 x y (.agg #[.int .i64 z0, .int .i64 z1, .int .i64 z2, .int .i64 z3, .int .i64 z4, .int .i64 z5, .int .i64 z6, .int .i64 z7]) (.agg #[.int .i64 z0, .int .i64 z1, .int .i64 z2, .int .i64 z3, .int .i64 z4, .int .i64 z5, .int .i64 z6, .int .i64 z7]) K t = K (.bool true) :=
  xBin_eqarr (n := 8) (e := 3) (k := .i64) (by kernel_rfl) (by kernel_rfl) (Option.eq_some_of_isSome (by kernel_rfl)) (by kernel_rfl) (by kernel_rfl) [z0, z1, z2, z3, z4, z5, z6, z7] rfl x y K t
/-- one deed more is counted -/
def kAt (k : Int) : Nat := if 1 ≤ k ∧ k ≤ 7 then k.toNat else 0
def kstep (z : List Int) (k : Int) : List Int := z.set (kAt k) (at0 z (kAt k) + 1)
def kindsL (l : List DeedD) : List Int := l.foldl (fun z d => kstep z d.kind) [0, 0, 0, 0, 0, 0, 0, 0]
theorem kindsL_snoc (l : List DeedD) (d : DeedD) : kindsL (l ++ [d]) = kstep (kindsL l) d.kind := by simp [kindsL, List.foldl_append]
theorem kAt_lt (k : Int) : kAt k < 8 := by unfold kAt; split <;> omega
theorem at0_setz (z : List Int) (i j : Nat) (v : Int) : at0 (z.set i v) j = if i = j ∧ i < z.length then v else at0 z j := by
  simp only [at0, List.getD, List.getElem?_set]
  by_cases e : i = j
  · subst e
    by_cases hi : i < z.length <;> simp [hi]
  · simp [e]
theorem kstep_len (z : List Int) (k : Int) : (kstep z k).length = z.length := by simp [kstep]
theorem kinds_bound {z : List Int} {m : Nat} (hz : ∀ i, 0 ≤ at0 z i ∧ at0 z i ≤ m) (k : Int) : ∀ i, 0 ≤ at0 (kstep z k) i ∧ at0 (kstep z k) i ≤ (m + 1 : Nat) := fun i => by
  have h1 := hz i
  have h2 := hz (kAt k)
  rw [kstep, at0_setz]
  split <;> omega
theorem kinds_ok : ∀ (l : List DeedD) , (kindsL l).length = 8 ∧ ∀ i, 0 ≤ at0 (kindsL l) i ∧ at0 (kindsL l) i ≤ l.length := by
  intro l
  have : ∀ (l : List DeedD) (z : List Int) (m : Nat), z.length = 8 → (∀ i, 0 ≤ at0 z i ∧ at0 z i ≤ m) → (l.foldl (fun z d => kstep z d.kind) z).length = 8 ∧ ∀ i, 0 ≤ at0 (l.foldl (fun z d => kstep z d.kind) z) i ∧ at0 (l.foldl (fun z d => kstep z d.kind) z) i ≤ (m + l.length : Nat) := by
    intro l
    induction l with
    | nil => exact fun z m h1 h2 => ⟨h1, by simpa using h2⟩
    | cons d l ih =>
      intro z m h1 h2
      have := ih (kstep z d.kind) (m + 1) (by rw [kstep_len]; exact h1) (kinds_bound h2 d.kind)
      rw [List.foldl_cons, List.length_cons, show m + (l.length + 1) = m + 1 + l.length by omega]
      exact this
  have h0 : ∀ i, 0 ≤ at0 [0, 0, 0, 0, 0, 0, 0, 0] i ∧ at0 [0, 0, 0, 0, 0, 0, 0, 0] i ≤ (0 : Nat) := by
    intro i
    rcases Nat.lt_or_ge i 8 with hi | hi
    · have : i = 0 ∨ i = 1 ∨ i = 2 ∨ i = 3 ∨ i = 4 ∨ i = 5 ∨ i = 6 ∨ i = 7 := by omega
      rcases this with rfl | rfl | rfl | rfl | rfl | rfl | rfl | rfl <;> exact ⟨by decide, by decide⟩
    · rw [at0_ge (by simpa using hi)]; exact ⟨by omega, by omega⟩
  have := this l _ 0 rfl h0
  rw [Nat.zero_add] at this
  exact this
/-- the array of counts, as a value -/
abbrev kV (z : List Int) : Value := .agg #[.int .i64 (at0 z 0), .int .i64 (at0 z 1), .int .i64 (at0 z 2), .int .i64 (at0 z 3), .int .i64 (at0 z 4), .int .i64 (at0 z 5), .int .i64 (at0 z 6), .int .i64 (at0 z 7)]
set_option maxHeartbeats 4000000 in
set_option maxRecDepth 20000 in
theorem kinds_any {l : List QD} (v : Value) (hd0 : Deeds h v l) (hn : l.length ≤ 100000) (hk : K (kV (kindsL (dl l))) L h) : Spec Try.prog 64 [v] L h K := by
  obtain ⟨a, c, rfl, hc, hl, _, hd⟩ := hd0.open
  refine x_enter Try.func64 rfl (rs := [_]) rfl rfl mixed (by kernel_rfl) rfl rfl ?_
  simp -dsimp -implicitDefEqProofs (disch := first | with_reducible assumption | omega) [go_sem]
  refine xnew fun b2 n_b2 h_b2 => ?_
  try simp only [Apart] at n_b2
  simp -dsimp -implicitDefEqProofs (disch := first | with_reducible assumption | omega) [go_sem]
  refine xnew fun b3 n_b3 h_b3 => ?_
  try simp only [Apart] at n_b3
  simp -dsimp -implicitDefEqProofs (disch := first | with_reducible assumption | omega) [go_sem]
  obtain ⟨Z, hZ⟩ : ∃ Z : Nat → List Int, ∀ i, Z i = kindsL ((dl l).take i) := ⟨_, fun _ => rfl⟩
  have z0 : Z 0 = [0, 0, 0, 0, 0, 0, 0, 0] := by rw [hZ]; rfl
  refine xloop (γ := Nat) 0 (fun k => k ≤ l.length) (fun k => [(8, .int .i64 k), (7, .int .i64 l.length), (6, .slice a l.length c), (3, .pointer (some ⟨b3, 0, none⟩)), (2, .pointer (some ⟨b2, 0, none⟩))])
    (fun k => ⟨b3, 117, (Z k).map (Value.int .i64), 8⟩ :: ⟨b2, 117, [.int .i64 0, .int .i64 0, .int .i64 0, .int .i64 0, .int .i64 0, .int .i64 0, .int .i64 0, .int .i64 0], 8⟩ :: L) (fun _ => h) (fun k => l.length - k) ?_ ?_ ?_ ?_
  · exact Nat.zero_le _
  · simp [Ent, List.lookup, xEnv]
  · rw [z0]; exact Drop.refl _ _
  rintro k k1
  have hz := kinds_ok ((dl l).take k)
  rw [← hZ] at hz
  obtain ⟨hz8, hzb⟩ := hz
  by_cases c1 : k < l.length
  · have hi := (hd.at c1).i
    obtain ⟨x1, y1, hv, hy, hly, _⟩ := hi.open
    have hs : Z (k + 1) = kstep (Z k) (gq l k).2.kind := by
      have h1 := dl_gq c1
      obtain ⟨h2, h3⟩ := List.getElem?_eq_some_iff.1 h1
      rw [hZ, hZ, List.take_succ_eq_append_getElem h2, h3, kindsL_snoc]
    have hb : ((dl l).take k).length ≤ 100000 := by rw [List.length_take, dl_len]; omega
    have q0 := hzb 0
    simp -dsimp -implicitDefEqProofs (disch := first | with_reducible assumption | omega) [go_sem, ↓idxD hd]
    refine xnew fun b5 n_b5 h_b5 => ?_
    try simp only [Apart] at n_b5
    simp -dsimp -implicitDefEqProofs (disch := first | with_reducible assumption | omega) [go_sem, hv]
    obtain ⟨d, hdd⟩ : ∃ d, d = (gq l k).2 := ⟨_, rfl⟩
    rw [← hdd] at hs ⊢
    by_cases c2 : 1 ≤ d.kind
    · by_cases c3 : d.kind ≤ 7
      · have ha : kAt d.kind = d.kind.toNat := by rw [kAt, if_pos ⟨c2, c3⟩]
        have hq := hzb d.kind.toNat
        have hat : (d.kind.toNat : Int) = d.kind := by omega
        simp -dsimp -implicitDefEqProofs (disch := first | with_reducible assumption | omega) [go_sem, xNth_ints]
        refine ⟨by omega, k + 1, by omega, by omega, by simp [Ent, List.lookup], ?_⟩
        rw [hs, kstep, ha, List.map_set]
        exact Drop.tail _ _ _
      · have ha : kAt d.kind = 0 := by rw [kAt, if_neg (by omega)]
        simp -dsimp -implicitDefEqProofs (disch := first | with_reducible assumption | omega) [go_sem, xNth_ints]
        refine ⟨by omega, k + 1, by omega, by omega, by simp [Ent, List.lookup], ?_⟩
        rw [hs, kstep, ha, List.map_set]
        exact Drop.tail _ _ _
    · have ha : kAt d.kind = 0 := by rw [kAt, if_neg (by omega)]
      simp -dsimp -implicitDefEqProofs (disch := first | with_reducible assumption | omega) [go_sem, xNth_ints]
      refine ⟨by omega, k + 1, by omega, by omega, by simp [Ent, List.lookup], ?_⟩
      rw [hs, kstep, ha, List.map_set]
      exact Drop.tail _ _ _
  · have hkl : k = l.length := by omega
    have ez : Z k = kindsL (dl l) := by rw [hZ, hkl, ← dl_len l, List.take_length]
    rw [ez]
    rw [ez] at hz8
    simp -dsimp -implicitDefEqProofs (disch := first | with_reducible assumption | omega) [go_sem, xNth_ints]
    exact fin_tail (fin_tail (fin_here hk))
end
end Go.X

/- The contract of the law FeedBack. Conditions: the values read as bytes, a way, a list of byte strings. -/
import Derived.Test.YtbobjcapmfpmkaaRG
set_option linter.unusedVariables false
set_option linter.unusedSimpArgs false
namespace Go.X
open Go.RowKit Go.Proofs Go.Bl
variable {L : Own} {h : PH} {K : PK}
/-- a place out of any number -/
def ixN (N : Nat) (n : Int) : Nat := ((n.tmod N + N).tmod N).toNat
theorem ixN_lt {N : Nat} (hN : 1 ≤ N) (n : Int) : ixN N n < N := by
  have h1 := Int.tmod_lt_of_pos (n.tmod N + N) (show (0 : Int) < (N : Int) by omega)
  unfold ixN
  omega
theorem tmod_bounds {N : Nat} (hN : 1 ≤ N) (n : Int) : -(N : Int) < n.tmod N ∧ n.tmod N < (N : Int) := ⟨Int.lt_tmod_of_pos n (by omega), Int.tmod_lt_of_pos n (by omega)⟩
theorem ixN_eq {N : Nat} (hN : 1 ≤ N) (n : Int) : (n.tmod N + N).tmod N = (ixN N n : Int) := by
  have h1 := tmod_bounds hN n
  have h2 := Int.tmod_nonneg (a := n.tmod N + N) (N : Int) (by omega)
  unfold ixN
  omega
theorem ixN_self {N i : Nat} (hi : i < N) : ixN N (i : Int) = i := by
  unfold ixN
  have h1 : (i : Int).tmod N = i := by rw [Int.tmod_eq_emod_of_nonneg (by omega)]; exact Int.emod_eq_of_lt (by omega) (by omega)
  rw [h1, Int.tmod_eq_emod_of_nonneg (by omega), Int.add_emod_right, Int.emod_eq_of_lt (by omega) (by omega)]
  simp
set_option maxHeartbeats 8000000 in
set_option maxRecDepth 20000 in
theorem feedback_any {text : List Int} (v w u : Value) (hx0 : Ints h .u8 v text)
    (hw : ∃ q : Int × Int × Value × List Int, w = .agg #[.int .u64 q.1, .int .i64 q.2.1, q.2.2.1] ∧ (0 ≤ q.1 ∧ q.1 ≤ 18446744073709551615) ∧ (-9223372036854775808 ≤ q.2.1 ∧ q.2.1 ≤ 9223372036854775807) ∧ Ints h .i64 q.2.2.1 q.2.2.2)
    (ho : ∃ q, Strs h u q) (hk : ∀ h', PH.le h h' → K (.bool true) L h') : Spec Try.prog 7 [v, w, u] L h K := by
  obtain ⟨⟨id, size, sv, order⟩, rfl, hid, hsz, hord0⟩ := hw
  simp only at hid hsz hord0 ⊢
  obtain ⟨oq, ho0⟩ := ho
  obtain ⟨oa, oc, rfl, _, hol, _, hocx, hoq⟩ := ho0.open
  have ox := hx0.open
  obtain ⟨xa, xc, rfl, _, hxl, _⟩ := ox
  have oo := hord0.open
  obtain ⟨na, nc, rfl, _, hnl, _⟩ := oo
  refine x_enter Try.func7 rfl (rs := [_]) rfl rfl mixed (by kernel_rfl) rfl rfl ?_
  simp -dsimp -implicitDefEqProofs (disch := first | with_reducible assumption | omega) [go_sem]
  refine xnew fun b4 n_b4 h_b4 => ?_
  try simp only [Apart] at n_b4
  simp -dsimp -implicitDefEqProofs (disch := first | with_reducible assumption | omega) [go_sem]
  refine Spec.ap (awake37_any fun h2 le2 ap => ?_)
  obtain ⟨a4, _⟩ := ap
  by_cases t1 : (text.length : Int) > 1000
  · simp -dsimp -implicitDefEqProofs (disch := first | with_reducible assumption | omega) [go_sem]
    exact fin_tail (fin_here (hk h2 le2))
  by_cases t2 : size < 1
  · simp -dsimp -implicitDefEqProofs (disch := first | with_reducible assumption | omega) [go_sem]
    exact fin_tail (fin_here (hk h2 le2))
  by_cases t3 : size > 500
  · simp -dsimp -implicitDefEqProofs (disch := first | with_reducible assumption | omega) [go_sem]
    exact fin_tail (fin_here (hk h2 le2))
  by_cases t4 : (order.length : Int) > 400
  · simp -dsimp -implicitDefEqProofs (disch := first | with_reducible assumption | omega) [go_sem]
    exact fin_tail (fin_here (hk h2 le2))
  obtain ⟨z, rfl⟩ := Int.eq_ofNat_of_zero_le (show 0 ≤ size by omega)
  simp -dsimp -implicitDefEqProofs (disch := first | with_reducible assumption | omega) [go_sem]
  refine Spec.ap (few37_any _ (hoq.up le2) fun h3 b le3 hb ap => ?_)
  obtain ⟨a4b, _⟩ := ap
  cases b with
  | false =>
    simp -dsimp -implicitDefEqProofs (disch := first | with_reducible assumption | omega) [go_sem]
    exact fin_tail (fin_here (hk h3 (le2.trans le3)))
  | true =>
  obtain ⟨f1, f2⟩ := hb rfl
  simp -dsimp -implicitDefEqProofs (disch := first | with_reducible assumption | omega) [go_sem]
  refine Spec.ap (fcut_ok id _ z hid (hx0.up (le2.trans le3)) (by omega) (by omega) (by omega) fun h4 r q le4 hq4 hx4 ap => ?_)
  obtain ⟨a4c, _⟩ := ap
  obtain ⟨qa, qc, rfl, _, _, _, hcx, hq⟩ := hq4.open
  have hN1 := allN_pos text.length z
  have hN2 := allN_le (len := text.length) (size := z) (by omega)
  have hqN : q.length = allN text.length z := by rw [← xsL_len, hx4, cutF_len]
  have le04 := le2.trans (le3.trans le4)
  have hocx4 : ∀ j, j < oq.length → elemCell h4 oa j = some ((fun j => (gs oq j).1) j) := fun j hj => elemCell_up le04 (hocx j hj)
  simp -dsimp -implicitDefEqProofs (disch := first | with_reducible assumption | omega) [go_sem]
  refine xloop (γ := Nat × PH) (0, h4) (fun s => s.1 ≤ oq.length ∧ PH.le h4 s.2 ∧ s.2 b4 = noC ∧ ∀ j, j < s.1 → ¬ ((parseC (gs oq j).2).2 = 0 ∧ (parseC (gs oq j).2).1.feed = id))
    (fun s => [(63, .int .i64 s.1), (62, .int .i64 oq.length), (61, .slice oa oq.length oc), (4, .pointer (some ⟨b4, 0, none⟩)), (7, .slice qa q.length qc), (2, .slice oa oq.length oc), (0, .slice xa text.length xc)])
    (fun _ => ⟨b4, 61, [.int .u64 id, .int .i64 z, .slice na order.length nc], 3⟩ :: L) (fun s => s.2) (fun s => oq.length - s.1) ?_ ?_ ?_ ?_
  · exact ⟨Nat.zero_le _, PH.le_refl _, a4c, fun j hj => by omega⟩
  · simp [Ent, List.lookup, xEnv]
  · exact Drop.refl _ _
  rintro ⟨k, hh⟩ ⟨i1, i2, i3, i4⟩
  simp only at i1 i2 i3 i4 ⊢
  have hcxk : ∀ j, j < oq.length → elemCell hh oa j = some ((fun j => (gs oq j).1) j) := fun j hj => elemCell_up i2 (hocx4 j hj)
  by_cases c1 : k < oq.length
  · have hx := (hoq.up (le04.trans i2)).at c1
    have hxx := hx
    have oxk := hx.open
    obtain ⟨x1, y1, hv, _⟩ := oxk
    rw [hv] at hxx
    have hl5 := f1 _ (List.mem_of_getElem? (xsL_at c1))
    simp -dsimp -implicitDefEqProofs (disch := first | with_reducible assumption | omega) [go_sem, idx hcxk, hv]
    refine Spec.ap (rparse_any _ hxx (by omega) fun h5 dv le5 hd5 ap => ?_)
    obtain ⟨a4d, _⟩ := ap
    obtain ⟨ch, e, hp⟩ : ∃ ch e, parseC (gs oq k).2 = (ch, e) := ⟨_, _, rfl⟩
    rw [hp] at hd5 ⊢
    simp only at hd5 ⊢
    have od := hd5.open
    obtain ⟨x2, y2, rfl, _⟩ := od
    simp -dsimp -implicitDefEqProofs (disch := first | with_reducible assumption | omega) [go_sem]
    refine xnew fun b11 n_b11 h_b11 => ?_
    try simp only [Apart] at n_b11
    simp -dsimp -implicitDefEqProofs (disch := first | with_reducible assumption | omega) [go_sem]
    have next : ∀ (hne : ¬ (e = 0 ∧ ch.feed = id)), ∀ j, j < k + 1 → ¬ ((parseC (gs oq j).2).2 = 0 ∧ (parseC (gs oq j).2).1.feed = id) := fun hne j hj => by
      by_cases ej : j = k
      · subst ej; rw [hp]; exact hne
      · exact i4 j (by omega)
    by_cases c3 : e = 0
    · by_cases c4 : ch.feed = id
      · simp -dsimp -implicitDefEqProofs (disch := first | with_reducible assumption | omega) [go_sem]
        exact fin_tail (fin_tail (fin_here (hk h5 (le04.trans (i2.trans le5)))))
      · simp -dsimp -implicitDefEqProofs (disch := first | with_reducible assumption | omega) [go_sem]
        exact ⟨k + 1, h5, ⟨by omega, i2.trans le5, a4d, fun j hj h1 h2 => next (fun hh => c4 hh.2) j hj ⟨h1, h2⟩⟩, by omega, by simp [Ent, List.lookup], Drop.tail _ _ _⟩
    · simp -dsimp -implicitDefEqProofs (disch := first | with_reducible assumption | omega) [go_sem]
      exact ⟨k + 1, h5, ⟨by omega, i2.trans le5, a4d, fun j hj h1 h2 => next (fun hh => c3 hh.1) j hj ⟨h1, h2⟩⟩, by omega, by simp [Ent, List.lookup], Drop.tail _ _ _⟩
  have i2h := i2
  have hkl : k = oq.length := by omega
  subst hkl
  have hoth : ∀ j, j < oq.length → ¬ ((parseC (gs oq j).2).2 = 0 ∧ (parseC (gs oq j).2).1.feed = id) := i4
  have le05 := le04.trans i2
  simp -dsimp -implicitDefEqProofs (disch := first | with_reducible assumption | omega) [go_sem]
  refine Spec.apn (inew_any fun bi bm ap nd => ?_)
  simp only [iO, Ap] at ap
  obtain ⟨p1, p2, _⟩ := ap
  simp only [iO, Nd, Apart] at nd
  obtain ⟨⟨n1, n2, _⟩, ⟨n3, _⟩, _⟩ := nd
  simp -dsimp -implicitDefEqProofs (disch := first | with_reducible assumption | omega) [go_sem]
  obtain ⟨N, hN⟩ : ∃ N, N = q.length := ⟨_, rfl⟩
  rw [← hN] at hqN
  refine xMS_full (e := 4) (z := .bool false) (by kernel_rfl) tI_4 rfl rfl .i64 .i64 _ (by omega) (by simp; omega) (by omega) ?_
  rw [← hN, Int.toNat_natCast]
  refine xnew fun b14 n_b14 h_b14 => ?_
  try simp only [Apart] at n_b14
  simp -dsimp -implicitDefEqProofs (disch := first | with_reducible assumption | omega) [go_sem]
  refine xnew fun b86 n_b86 h_b86 => ?_
  try simp only [Apart] at n_b86
  simp -dsimp -implicitDefEqProofs (disch := first | with_reducible assumption | omega) [go_sem]
  have hordk := hord0.up le05
  refine xappend (t := 59) (e := 3) (sz := 1) (bytes := 8) (z := [.int .i64 0]) (by kernel_rfl) tI_3 rfl rfl rfl rfl (by decide) [] _ (some (b86, 0)) 0 [] ⟨Nat.le_refl _, Nat.zero_le _⟩ rfl (m := order.length) (Src.known hordk.1) (by simp) (ints_one _ _) (by simp only [maxLen]; omega) (by omega) ?_
  intro o1 j1 j2 j3
  simp only [Nat.zero_add, List.nil_append] at j1 j2 ⊢
  simp -dsimp -implicitDefEqProofs (disch := first | with_reducible assumption | omega) [go_sem]
  refine all37_any N (by omega) fun o2 k2 => ?_
  simp -dsimp -implicitDefEqProofs (disch := first | with_reducible assumption | omega) [go_sem]
  cases o2 with
  | none =>
    have : N = 0 := k2
    omega
  | some p2 =>
  obtain ⟨b92, c92⟩ := p2
  refine xappend (t := 59) (e := 3) (sz := 1) (bytes := 8) (z := [.int .i64 0]) (by kernel_rfl) tI_3 rfl rfl rfl rfl (by decide) [⟨b92, 3, (List.range N).map fun i : Nat => Value.int .i64 i, c92 * 1⟩] _ o1 order.length (order.map (.int .i64)) j1 (by simp) (m := N) (news := (List.range N).map fun i : Nat => Value.int .i64 i) (Src.own (b := b92) (t := 3) (cap := c92 * 1) (by simp)) (by simp) (fun u hu => by obtain ⟨i, _, rfl⟩ := List.mem_map.1 hu; rfl) (by simp only [maxLen]; omega) (by omega) ?_
  intro o3 m1 m2 m3
  cases o3 with
  | none =>
    have : order.length + N = 0 := m1
    omega
  | some p3 =>
  obtain ⟨b3, c3⟩ := p3
  obtain ⟨ns, hns⟩ : ∃ ns : List Int, ns = order ++ (List.range N).map fun i : Nat => (i : Int) := ⟨_, rfl⟩
  have hnl2 : ns.length = order.length + N := by rw [hns]; simp
  have hcells : (order.map (.int .i64) ++ (List.range N).map fun i : Nat => Value.int .i64 i) = ns.map (Value.int .i64) := by rw [hns]; simp [Function.comp_def]
  rw [hcells, ← hnl2]
  simp only [apO, List.cons_append, List.nil_append, Apart] at m2
  obtain ⟨⟨e1, e2, e3, e4, e5, _⟩, m2⟩ := m2
  try simp only [Apart] at n_b14
  obtain ⟨g1, g2, g3, _⟩ := n_b14
  simp only [ovs_some, oent_some, iO, List.cons_append, List.nil_append]
  simp -dsimp -implicitDefEqProofs (disch := first | with_reducible assumption | omega) [go_sem]
  refine xloop (γ := Nat × InS × List Bool × PH) (0, zeroIn, List.replicate N false, hh)
    (fun t => t.1 ≤ ns.length ∧ Took id text z t.2.2.1 t.2.1 ∧ InOk t.2.2.2 t.2.1 ∧ PH.le hh t.2.2.2 ∧ (∀ j, j < t.1 → t.2.2.1[ixN N (at0 ns j)]? = some true) ∧ t.2.2.2 b3 = noC ∧ t.2.2.2 b14 = noC)
    (fun t => [(95, .int .i64 t.1), (94, .int .i64 ns.length), (93, .slice (some ⟨b3, 0, none⟩) ns.length c3), (13, .pointer (some ⟨bi, 0, none⟩)), (14, .slice (some ⟨b14, 0, none⟩) N N), (7, .slice qa q.length qc), (2, .slice oa oq.length oc), (0, .slice xa text.length xc)])
    (fun t => iO bi bm t.2.1 (⟨b14, 4, t.2.2.1.map .bool, N⟩ :: ⟨b3, 3, ns.map (.int .i64), c3⟩ :: L)) (fun t => t.2.2.2) (fun t => ns.length - t.1) ?_ ?_ ?_ ?_
  · exact ⟨Nat.zero_le _, by rw [hqN]; exact took_zero id text z, ⟨(fun e he => by cases he), Nat.zero_le _, ⟨Int.le_refl _, by simp [zeroIn]⟩, ⟨Int.le_refl _, by simp [zeroIn]⟩⟩, PH.le_refl _, fun j hj => by omega, m2, by assumption⟩
  · simp [Ent, List.lookup, xEnv, ← hN]
  · simp only [List.map_replicate]
    exact ((Drop.tail _ _ _).trans (Drop.perm _ ((List.perm_middle (l₁ := [_, _])).trans (List.Perm.cons _ ((List.perm_middle (l₁ := [_, _])).trans (List.Perm.cons _ (List.Perm.swap _ _ _))))))).trans (Drop.sub (List.Sublist.cons_cons _ (List.Sublist.cons_cons _ (List.Sublist.cons_cons _ (List.Sublist.cons_cons _ (List.Sublist.cons _ (List.Sublist.refl _)))))))
  rintro ⟨k, s, M, h6⟩ ⟨i1, i2, i3, i4, i5, i6, i7⟩
  have i2' := i2h
  simp only at i1 i2 i3 i4 i5 i6 i7 ⊢
  have hML : M.length = N := by rw [i2.len, hqN]
  by_cases c1 : k < ns.length
  · have hr := tmod_bounds (N := N) (by omega) (at0 ns k)
    have hix := ixN_lt (N := N) (by omega) (at0 ns k)
    have eix := ixN_eq (N := N) (by omega) (at0 ns k)
    rw [← hN]
    obtain ⟨i, hi⟩ : ∃ i, i = ixN N (at0 ns k) := ⟨_, rfl⟩
    rw [← hi] at hix eix
    have hcx6 : ∀ j, j < N → elemCell h6 qa j = some ((fun j => (gs q j).1) j) := fun j hj => elemCell_up (i2'.trans i4) (hcx j (by omega))
    have hxi := (hq.up (i2'.trans i4)).at (i := i) (by omega)
    have hgi : (gs q i).2 = formC (chunkAt id text z i) := by
      have e1 := xsL_at (l := q) (i := i) (by omega)
      rw [hx4] at e1
      simp [cutF, show i < allN text.length z by omega] at e1
      exact e1.symm
    have hok := chunk_ok (id := id) (text := text) (z := z) (i := i) hid (by omega) (by omega) (by omega) (by omega)
    have hfl := formC_len hok
    have hpf := parse_form (id := id) (text := text) (z := z) (i := i) hid (by omega) (by omega) (by omega) (by omega) (by omega)
    have oxi := hxi.open
    obtain ⟨x7, y7, hv7, _⟩ := oxi
    have hxi0 := hxi
    rw [hv7, hgi] at hxi0
    rw [hgi] at hv7
    have hcn := cntM_le M
    have hct := i2.cnt
    simp -dsimp -implicitDefEqProofs (disch := first | with_reducible assumption | omega) [go_sem, xNth_ints, eix, idx hcx6, hv7]
    refine Spec.ap (iadd_any _ hxi0 (by omega) i3 (by omega) fun h7 dv le7 ok7 ap => ?_)
    obtain ⟨bv, hb⟩ : ∃ b, M[i]? = some b := ⟨_, List.getElem?_eq_getElem (by omega)⟩
    obtain ⟨D, E, S, hA⟩ : ∃ D E S, addP s (formC (chunkAt id text z i)) dv = (D, E, S) := ⟨_, _, _, rfl⟩
    rw [hA] at ok7 ap ⊢
    simp only at ok7 ap ⊢
    obtain ⟨_, _, a14a, a3a, _⟩ := ap
    cases bv with
    | true =>
      have hA' := took_twice (dv := dv) i2 hb hpf
      rw [hA] at hA'
      injection hA' with _ hA'
      injection hA' with hE hS
      subst hE
      subst hS
      have hT : Took id text z (M.set i true) S := by
        obtain ⟨hlt, hbe⟩ := List.getElem?_eq_some_iff.1 hb
        have := List.set_getElem_self hlt
        rw [hbe] at this
        rw [this]; exact i2
      have hcellb : (M.map Value.bool)[i]? = some (.bool true) := by rw [List.getElem?_map, hb]; rfl
      have hne : S.ts ≠ [] := fun e => by
        obtain ⟨v9, h9⟩ := hT.got i (List.getElem?_set_self (by omega))
        rw [e] at h9; cases h9
      simp -dsimp -implicitDefEqProofs (disch := first | with_reducible assumption | omega) [go_sem, xNth_of hcellb]
      have hlenM : i + 1 ≤ M.length := by omega
      refine ⟨by simpa using hlenM, ?_⟩
      have hmet : ∀ j, j < k + 1 → (M.set i true)[ixN N (at0 ns j)]? = some true := fun j hj => by
        by_cases ej : ixN N (at0 ns j) = i
        · rw [ej, List.getElem?_set_self (by omega)]
        · rw [List.getElem?_set_ne (Ne.symm ej)]
          refine i5 j ?_
          rcases Nat.lt_or_ge j k with hjk | hjk
          · exact hjk
          · have : j = k := by omega
            subst this
            exact absurd hi.symm ej
      by_cases c5 : k < oq.length
      · have hcx7 : ∀ j, j < oq.length → elemCell h7 oa j = some ((fun j => (gs oq j).1) j) := fun j hj => elemCell_up (i2'.trans (i4.trans le7)) (hocx4 j hj)
        have hxo := (hoq.up (le05.trans (i4.trans le7))).at c5
        have hxo0 := hxo
        have oxo := hxo.open
        obtain ⟨x8, y8, hv8, _⟩ := oxo
        rw [hv8] at hxo0
        have hl8 := f1 _ (List.mem_of_getElem? (xsL_at c5))
        have hcnt := hT.cnt
        have hcle := cntM_le (M.set i true)
        rw [List.length_set] at hcle
        simp -dsimp -implicitDefEqProofs (disch := first | with_reducible assumption | omega) [go_sem, idx hcx7, hv8]
        refine Spec.ap (iadd_any _ hxo0 (by omega) ok7 (by omega) fun h8 dv2 le8 ok8 ap => ?_)
        obtain ⟨hE2, hS2⟩ := took_other (dv := dv2) hT hne (hoth k c5)
        obtain ⟨D2, E2, S2, hA2⟩ : ∃ D E S', addP S (gs oq k).2 dv2 = (D, E, S') := ⟨_, _, _, rfl⟩
        rw [hA2] at ok8 ap hE2 hS2 ⊢
        simp only at ok8 ap hE2 hS2 ⊢
        subst hS2
        obtain ⟨_, _, a14b, a3b, _⟩ := ap
        simp -dsimp -implicitDefEqProofs (disch := first | with_reducible assumption | omega) [go_sem]
        refine ⟨k + 1, S2, M.set i true, h8, ⟨by omega, hT, ok8, i4.trans (le7.trans le8), hmet, a3b, a14b⟩, by omega, by simp [Ent, List.lookup, hN], ?_⟩
        rw [List.map_set]
        exact Drop.refl _ _
      · simp -dsimp -implicitDefEqProofs (disch := first | with_reducible assumption | omega) [go_sem]
        refine ⟨k + 1, S, M.set i true, h7, ⟨by omega, hT, ok7, i4.trans le7, hmet, a3a, a14a⟩, by omega, by simp [Ent, List.lookup, hN], ?_⟩
        rw [List.map_set]
        exact Drop.refl _ _
    | false =>
      obtain ⟨hE, hT⟩ := took_new (dv := dv) (by omega) i2 hb hpf
      rw [hA] at hE hT
      simp only at hE hT
      subst hE
      have hcellb : (M.map Value.bool)[i]? = some (.bool false) := by rw [List.getElem?_map, hb]; rfl
      have hne : S.ts ≠ [] := fun e => by
        obtain ⟨v9, h9⟩ := hT.got i (List.getElem?_set_self (by omega))
        rw [e] at h9; cases h9
      simp -dsimp -implicitDefEqProofs (disch := first | with_reducible assumption | omega) [go_sem, xNth_of hcellb]
      have hlenM : i + 1 ≤ M.length := by omega
      refine ⟨by simpa using hlenM, ?_⟩
      have hmet : ∀ j, j < k + 1 → (M.set i true)[ixN N (at0 ns j)]? = some true := fun j hj => by
        by_cases ej : ixN N (at0 ns j) = i
        · rw [ej, List.getElem?_set_self (by omega)]
        · rw [List.getElem?_set_ne (Ne.symm ej)]
          refine i5 j ?_
          rcases Nat.lt_or_ge j k with hjk | hjk
          · exact hjk
          · have : j = k := by omega
            subst this
            exact absurd hi.symm ej
      by_cases c5 : k < oq.length
      · have hcx7 : ∀ j, j < oq.length → elemCell h7 oa j = some ((fun j => (gs oq j).1) j) := fun j hj => elemCell_up (i2'.trans (i4.trans le7)) (hocx4 j hj)
        have hxo := (hoq.up (le05.trans (i4.trans le7))).at c5
        have hxo0 := hxo
        have oxo := hxo.open
        obtain ⟨x8, y8, hv8, _⟩ := oxo
        rw [hv8] at hxo0
        have hl8 := f1 _ (List.mem_of_getElem? (xsL_at c5))
        have hcnt := hT.cnt
        have hcle := cntM_le (M.set i true)
        rw [List.length_set] at hcle
        simp -dsimp -implicitDefEqProofs (disch := first | with_reducible assumption | omega) [go_sem, idx hcx7, hv8]
        refine Spec.ap (iadd_any _ hxo0 (by omega) ok7 (by omega) fun h8 dv2 le8 ok8 ap => ?_)
        obtain ⟨hE2, hS2⟩ := took_other (dv := dv2) hT hne (hoth k c5)
        obtain ⟨D2, E2, S2, hA2⟩ : ∃ D E S', addP S (gs oq k).2 dv2 = (D, E, S') := ⟨_, _, _, rfl⟩
        rw [hA2] at ok8 ap hE2 hS2 ⊢
        simp only at ok8 ap hE2 hS2 ⊢
        subst hS2
        obtain ⟨_, _, a14b, a3b, _⟩ := ap
        simp -dsimp -implicitDefEqProofs (disch := first | with_reducible assumption | omega) [go_sem]
        refine ⟨k + 1, S2, M.set i true, h8, ⟨by omega, hT, ok8, i4.trans (le7.trans le8), hmet, a3b, a14b⟩, by omega, by simp [Ent, List.lookup, hN], ?_⟩
        rw [List.map_set]
        exact Drop.refl _ _
      · simp -dsimp -implicitDefEqProofs (disch := first | with_reducible assumption | omega) [go_sem]
        refine ⟨k + 1, S, M.set i true, h7, ⟨by omega, hT, ok7, i4.trans le7, hmet, a3a, a14a⟩, by omega, by simp [Ent, List.lookup, hN], ?_⟩
        rw [List.map_set]
        exact Drop.refl _ _
  · have hkl : k = ns.length := by omega
    subst hkl
    have hallM : ∀ i, i < M.length → M[i]? = some true := fun i hi => by
      have hj := i5 (order.length + i) (by omega)
      have e1 : at0 ns (order.length + i) = (i : Int) := by
        rw [hns, at0, List.getD, List.getElem?_append_right (by omega), Nat.add_sub_cancel_left]
        simp [show i < N by omega]
      rw [e1, ixN_self (by omega)] at hj
      exact hj
    obtain ⟨d1, d2, d3⟩ := took_all (by omega) i2 hallM
    have hN3 : (allN text.length z : Int).toNat = allN text.length z := by simp
    rw [← hN]
    simp -dsimp -implicitDefEqProofs (disch := first | with_reducible assumption | omega) [go_sem]
    refine Spec.apn (itext_any i3 (fun n hn => ?_) fun h8 r8 le8 hr8 ap nd => ?_)
    · rw [d2, hN3] at hn
      have := sumM_le M (wsP text z)
      have e2 : (txtP s n).length ≤ (txtP s (allN text.length z)).length := by
        have : ∀ a b : Nat, (txtP s a).length ≤ (txtP s (a + b)).length := fun a b => by
          induction b with
          | zero => exact Nat.le_refl _
          | succ b ih => rw [show a + (b + 1) = (a + b) + 1 by omega, txtP_succ, List.length_append]; omega
        have := this n (allN text.length z - n)
        rwa [show n + (allN text.length z - n) = allN text.length z by omega] at this
      rw [d3] at e2
      omega
    rw [d1, if_pos rfl, d2, hN3, d3] at hr8
    rw [d1]
    have hr8' := hr8
    have or8 := hr8.open
    obtain ⟨x8, y8, rfl, _⟩ := or8
    simp -dsimp -implicitDefEqProofs (disch := first | with_reducible assumption | omega) [go_sem]
    refine same8 _ _ hr8' (hx0.up (le05.trans (i4.trans le8))) ?_
    rw [decide_eq_true rfl]
    simp -dsimp -implicitDefEqProofs (disch := first | with_reducible assumption | omega) [go_sem]
    refine imissing_all i3.a (fun j hj => ?_) ?_
    · obtain ⟨v9, h9⟩ := i2.got j (hallM j (by rw [d2] at hj; omega))
      rw [h9]; rfl
    simp -dsimp -implicitDefEqProofs (disch := first | with_reducible assumption | omega) [go_sem]
    exact fin_tail (fin_tail (fin_tail (fin_tail (fin_here (hk h8 (le05.trans (i4.trans le8)))))))
end Go.X

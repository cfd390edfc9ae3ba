/- Contracts of bullionref19.End, bullionref16.Drop, bullionref18.Owe, bullionref24.Own. Conditions: lists of at most 1000 elements; what is owed has room. -/
import Derived.Test.YtfilkbfkhdaakaaGreatUL
set_option linter.unusedVariables false
set_option linter.unusedSimpArgs false
set_option maxRecDepth 20000
namespace Go.X
open Go.RowKit Go.Proofs Go.Bl
variable {L : Own} {h : PH} {K : PK}
theorem end19_any (m : MemD) (hk : K (.tuple #[memV (endM m), .int .u64 m.bal]) L h) : Spec Tryz.prog 120 [memV m, .int .i64 4] L h K := by
  refine x_enter Tryz.func120 rfl (rs := [_, _]) rfl rfl mixed (by kernel_rfl) rfl rfl ?_
  simp -dsimp -implicitDefEqProofs (disch := first | with_reducible assumption | omega) [go_sem]
  refine xnew fun b2 n_b2 h_b2 => ?_
  try simp only [Apart] at n_b2
  simp -dsimp -implicitDefEqProofs (disch := first | with_reducible assumption | omega) [go_sem]
  refine xnew fun b4 n_b4 h_b4 => ?_
  try simp only [Apart] at n_b4
  simp -dsimp -implicitDefEqProofs (disch := first | with_reducible assumption | omega) [go_sem]
  refine xanyl (.tk 0 (.tk 1 (.tk 4 (.tk 6 (.tk 8 (.tk 9 (.tkl 2 (.tk 3 (.tkl 5 (.tk 7 (.or true 10 (.or false 11 (.tk 12 (.fin)) (.nil)) (.or false 11 (.or true 10 (.tk 12 (.fin)) (.nil)) (.nil))))))))))))) (by kernel_rfl) (by kernel_rfl) _ (Drop.refl _ _) ?_
  repeat' first
    | with_reducible refine xpl_or ?_ ?_
    | with_reducible refine xkp (Drop.refl _ _) ?_
    | simp -dsimp -implicitDefEqProofs (disch := first | with_reducible assumption | omega) [go_sem]
  all_goals exact fin_tail (fin_tail (fin_here hk))
set_option maxHeartbeats 1600000 in
theorem drop16_any {xs : List Int} (v : Value) (hv : Ints h .i64 v xs) (k : Int) (hl : xs.length ≤ 1000) (hk : ∀ h' r, PH.le h h' → Ints h' .i64 r (flt xs k) → K r L h') : Spec Tryz.prog 121 [v, .int .i64 k] L h K := by
  have hr := hv.2
  obtain ⟨va, vc, rfl, hna, hca, _, hcx⟩ := hv.open
  refine x_enter Tryz.func121 rfl (rs := [_]) rfl rfl mixed (by kernel_rfl) rfl rfl ?_
  simp -dsimp -implicitDefEqProofs (disch := first | with_reducible assumption | omega) [go_sem]
  refine xloop (γ := Nat × Option (Nat × Nat)) (0, none) (fun q => q.1 ≤ xs.length ∧ okO q.2 (flt (xs.take q.1) k).length ∧ apO q.2 L h) (fun q => [(6, .int .i64 q.1), (5, ovs q.2 (flt (xs.take q.1) k).length), (0, .slice va xs.length vc), (1, .int .i64 k)]) (fun q => oent 3 1 q.2 ((flt (xs.take q.1) k).map (.int .i64)) L) (fun _ => h) (fun q => xs.length - q.1) ?_ ?_ ?_ ?_
  · exact ⟨Nat.zero_le _, rfl, trivial⟩
  · simp [Ent, List.lookup, xEnv, ovs]
  · exact Drop.refl _ _
  rintro ⟨j, o⟩ ⟨j1, j2, j3⟩
  simp only at j1 j2 j3 ⊢
  have hfl := flt_len (xs.take j) k
  rw [List.length_take, Nat.min_eq_left j1] at hfl
  by_cases c1 : j < xs.length
  · have hs := flt_succ (k := k) c1
    by_cases c2 : at0 xs j = k
    · rw [if_neg (by simpa using c2), List.append_nil] at hs
      simp -dsimp -implicitDefEqProofs (disch := first | with_reducible assumption | omega) [go_sem, idx hcx]
      exact ⟨j + 1, o, ⟨by omega, by rw [hs]; exact j2, j3⟩, by omega, by simp [Ent, List.lookup, hs], by simp only [hs]; exact Drop.refl _ _⟩
    · rw [if_pos c2] at hs
      simp -dsimp -implicitDefEqProofs (disch := first | with_reducible assumption | omega) [go_sem, idx hcx]
      refine xnew fun bs n_bs h_bs => ?_
      try simp only [Apart] at n_bs
      simp -dsimp -implicitDefEqProofs (disch := first | with_reducible assumption | omega) [go_sem, idx hcx]
      refine xappend (t := 27) (e := 3) (sz := 1) (bytes := 8) (by kernel_rfl) tI_3 rfl rfl rfl rfl (by decide) [_] L o (flt (xs.take j) k).length _ j2 (by simp) (Src.own List.mem_cons_self) (m := 1) (news := [.int .i64 (at0 xs j)]) rfl (fun u hu => by simp at hu; subst hu; rfl) (by simp [maxLen]; omega) (by omega) ?_
      intro o' i1 i2 i3
      simp -dsimp -implicitDefEqProofs (disch := first | with_reducible assumption | omega) [go_sem]
      have hsl : (flt (xs.take (j + 1)) k).length = (flt (xs.take j) k).length + 1 := by rw [hs, List.length_append]; rfl
      refine ⟨j + 1, o', ⟨by omega, by rw [hsl]; exact i1, apO_tail i2⟩, by omega, by simp [Ent, List.lookup, hsl], ?_⟩
      simp only [hs, List.map_append, List.map_cons, List.map_nil]
      exact Drop.tail _ _ _
  · have hj : j = xs.length := by omega
    subst hj
    rw [List.take_length] at j2 hfl ⊢
    simp -dsimp -implicitDefEqProofs (disch := first | with_reducible assumption | omega) [go_sem]
    refine fin_pub (e := 3) (n := (flt xs k).length) j2 (by simp) (by omega) j3 fun h' le sl => fin_here (hk h' _ le ⟨sl, fun z hz => hr z (List.mem_filter.1 hz).1⟩)
theorem Sl.drop {h : PH} {a : Option Addr} {n c sz : Nat} {cs : List Value} (hs : Sl h (.slice a n c) n sz cs) (i : Nat) (hi : i ≤ n) : Sl h (.slice (cutA a c i sz) (n - i) (c - i)) (n - i) sz (cs.drop (i * sz)) := by
  obtain ⟨h1, a', c', h2, h3, h4, h5, h6, h7⟩ := hs
  injection h2 with e1 e2 e3
  subst e1; subst e3
  refine ⟨by rw [List.length_drop, h1, Nat.sub_mul], cutA a c i sz, c - i, rfl, by omega, by omega, by omega, fun hn => ?_, fun m v hm => ?_⟩
  · unfold cutA at hn
    split at hn
    · omega
    · cases a with
      | none => have := h6 rfl; omega
      | some q => simp at hn
  · rw [List.getElem?_drop] at hm
    have hlt := (List.getElem?_eq_some_iff.1 hm).1
    have hne : ¬ c = i := fun e => by
      have : n = i := by omega
      subst this
      omega
    have := h7 (i * sz + m) v hm
    unfold cutA
    rw [if_neg hne]
    cases a with
    | none => simp [elemCell] at this
    | some q =>
      simp only [elemCell, Option.map_some, add_add'] at this ⊢
      exact this
theorem ovs_cut {o : Option (Nat × Nat)} {n m : Nat} (ho : okO o n) (hm : m ≤ n) : ∃ a c, ovs o n = .slice a n c ∧ ovs o m = .slice a m c ∧ n ≤ c := by
  cases o with
  | none =>
    have h0 : n = 0 := ho
    have h1 : m = 0 := by omega
    subst h0 h1
    exact ⟨none, 0, rfl, rfl, Nat.le_refl _⟩
  | some p => obtain ⟨b, cap⟩ := p; exact ⟨_, _, rfl, rfl, ho.1⟩
/-- of an own list behind others less is known -/
theorem drop_take_at (A : Own) (e sz m : Nat) (o : Option (Nat × Nat)) (cs : List Value) (L : Own) (h : PH) (ht : e ≠ 4294967295 := by first | decide | omega) : Drop (A ++ oent e sz o cs L) h (A ++ oent e sz o (cs.take m) L) h :=
  (Drop.perm h (oent_perm_app A)).trans ((drop_take_o e sz m o cs (A ++ L) h ht).trans (Drop.perm h (oent_perm_app A).symm))
theorem due46 : tSh Tryz.prog 46 = .sl 204 3 24 := by kernel_rfl
theorem due46_under : Tryz.prog.underlying 46 = some (.slice 204) := by kernel_rfl
set_option maxHeartbeats 12800000 in
theorem owe18_any {l : List DueD} {d : DueD} (v : Value) (hv : Recs dueC 3 h v l) (hd : ∀ x ∈ l, DueOk x) (hl : l.length ≤ 900) (hacct : 0 ≤ d.acct ∧ d.acct ≤ 63) (hat : 0 ≤ d.at' ∧ d.at' ≤ 9223372036854775807) (hamt : 0 ≤ d.amt) (hs : dTot l + d.amt ≤ 4611686018427387904)
    (hk : ∀ h' r, PH.le h h' → Recs dueC 3 h' r (oweL l d) → K (.tuple #[r, .int .i64 0]) L h') : Spec Tryz.prog 122 [v, dueV d] L h K := by
  have hv0 := hv
  have ht0 : 0 ≤ dTot l := tot_nonneg (amt_pos hd)
  obtain ⟨va, vc, rfl, hna, hca, _, hvR⟩ := hv.open
  refine x_enter Tryz.func122 rfl (rs := [_, _]) rfl rfl mixed (by kernel_rfl) rfl rfl ?_
  simp -dsimp -implicitDefEqProofs (disch := first | with_reducible assumption | omega) [go_sem]
  refine xnew fun b3 n_b3 h_b3 => ?_
  try simp only [Apart] at n_b3
  simp -dsimp -implicitDefEqProofs (disch := first | with_reducible assumption | omega) [go_sem]
  refine xappend (t := 46) (e := 204) (sz := 3) (bytes := 24) due46_under tI_204 rfl rfl rfl rfl (by decide) [] _ none 0 [] rfl rfl (Src.known hv0.s) (news := l.flatMap dueC) (flatG_len dueC_len l) (flatI_one dueC_one l) (by simp [maxLen]; omega) (by omega) ?_
  intro o ok1 ap1 i3
  simp only [Nat.zero_add, List.nil_append] at ok1 ap1 ⊢
  have n3 : apB o b3 := ap1.head
  simp -dsimp -implicitDefEqProofs (disch := first | with_reducible assumption | omega) [go_sem, xFind_oent n3]
  by_cases c0 : d.amt = 0
  · rw [oweL, if_pos c0] at hk
    simp -dsimp -implicitDefEqProofs (disch := first | with_reducible assumption | omega) [go_sem, xFind_oent n3]
    refine fin_pub (e := 204) (n := l.length) ok1 (flatG_len dueC_len l) (by omega) ap1 fun h' le sl => fin_tail (fin_here (hk h' _ le (Recs.pub dueC_len sl)))
  obtain ⟨a, c, ea, hc⟩ := ovs_open ok1
  simp -dsimp -implicitDefEqProofs (disch := first | with_reducible assumption | omega) [go_sem, xFind_oent n3]
  refine xloop (γ := Nat) 0 (fun j => j ≤ l.length ∧ ∀ i, i < j → sameK d (gr zeroDue l i) = false) (fun j => [(7, .int .i64 j), (6, ovs o l.length), (3, .pointer (some ⟨b3, 0, none⟩)), (0, .slice va l.length vc)]) (fun _ => oent 204 3 o (l.flatMap dueC) (⟨b3, 204, dueC d, 3⟩ :: L)) (fun _ => h) (fun j => l.length - j) ?_ ?_ ?_ ?_
  · exact ⟨Nat.zero_le _, fun i hi => by omega⟩
  · simp [Ent, List.lookup, xEnv]
  · exact Drop.refl _ _
  rintro j ⟨j1, j2⟩
  by_cases c1 : j < l.length
  · obtain ⟨bx, cap, rfl⟩ : ∃ bx cap, o = some (bx, cap) := by
      cases o with
      | none => have : l.length = 0 := ok1; omega
      | some p => exact ⟨_, _, rfl⟩
    have hbx : h bx = noC := ap1.2
    have nbx : bx ≠ b3 := n3
    obtain ⟨x, hx⟩ : ∃ x, x = gr zeroDue l j := ⟨_, rfl⟩
    have hxo := hd x (by rw [hx]; exact grD_mem c1)
    have ha := hxo.a
    have hxt := amt_le hd c1
    rw [← hx] at hxt
    have g0 : ∀ (K : Value → Prop) (t : Tok K), xNth (l.flatMap dueC) (j * 3) K t = K (.int .i64 x.acct) := fun K t => xNth_rec dueC_len zeroDue _ (m := 0) c1 (by decide) (by rw [← hx]; rfl) K t
    have g1 : ∀ (K : Value → Prop) (t : Tok K), xNth (l.flatMap dueC) (j * 3 + 1) K t = K (.int .i64 x.at') := fun K t => xNth_rec dueC_len zeroDue _ (m := 1) c1 (by decide) (by rw [← hx]; rfl) K t
    have g2 : ∀ (K : Value → Prop) (t : Tok K), xNth (l.flatMap dueC) (j * 3 + 2) K t = K (.int .u64 x.amt) := fun K t => xNth_rec dueC_len zeroDue _ (m := 2) c1 (by decide) (by rw [← hx]; rfl) K t
    simp only [ovs_some, oent_some]
    by_cases d1 : x.acct = d.acct
    · by_cases d2 : x.at' = d.at'
      · have hfk : fstK l d = j := fstK_at c1 (by rw [← hx]; simp [sameK, d1, d2]) j2
        rw [oweL, if_neg c0, hfk, if_pos c1, ← hx] at hk
        simp -dsimp -implicitDefEqProofs (disch := first | with_reducible assumption | omega) [go_sem]
        refine xdraw (by kernel_rfl) rfl ?_
        simp -dsimp -implicitDefEqProofs (disch := first | with_reducible assumption | omega) [go_sem, g0, g1, g2, dueC]
        refine xdraw (by kernel_rfl) rfl ?_
        simp -dsimp -implicitDefEqProofs (disch := first | with_reducible assumption | omega) [go_sem, g0, g1, g2, dueC]
        refine xanyl (.tk 0 (.tk 1 (.tk 2 (.tk 4 (.tk 6 (.tk 7 (.tk 8 (.tk 9 (.tk 11 (.tkl 3 (.tkl 5 (.tkl 10 (.tkl 12 (.tk 13 (.tk 14 (.tk 15 (.or false 16 (.fin) (.nil)))))))))))))))))) (by kernel_rfl) (by kernel_rfl) _ (Drop.refl _ _) ?_
        repeat' first
          | with_reducible refine xpl_or ?_ ?_
          | with_reducible refine xkp (Drop.refl _ _) ?_
          | simp -dsimp -implicitDefEqProofs (disch := first | with_reducible assumption | omega) [go_sem, g0, g1, g2, dueC]
        all_goals
          have hsum : (l.map fun _ => 3).sum = l.length * 3 := by
            have : (l.map fun a => (dueC a).length).sum = l.length * 3 := by rw [← List.length_flatMap, flatG_len dueC_len]
            exact this
          have hk3 := flat_lt (w := 3) c1 (show 2 < 3 by decide)
          refine ⟨by omega, ?_⟩
          have hset : (((l.flatMap dueC).set (j * 3) (.int .i64 d.acct)).set (j * 3 + 1) (.int .i64 d.at')).set (j * 3 + 1 + 1) (.int .u64 (x.amt + d.amt)) = (l.set j (addD x d)).flatMap dueC := by
            rw [← d1, ← d2]
            exact flatG_wr dueC_len l c1 (addD x d)
          rw [hset]
          refine fin_pub (e := 204) (n := l.length) (o := some (bx, cap)) ok1 (by rw [flatG_len dueC_len, List.length_set]) (by omega) ap1 fun h' le sl => fin_tail (fin_here (hk h' _ le ?_))
          have := Recs.pub (f := dueC) (w := 3) (l := l.set j (addD x d)) (o := some (bx, cap)) dueC_len (by rw [List.length_set]; exact sl)
          rwa [List.length_set] at this
      · have nx : sameK d x = false := by simp [sameK, d2]
        simp -dsimp -implicitDefEqProofs (disch := first | with_reducible assumption | omega) [go_sem]
        refine xdraw (by kernel_rfl) rfl ?_
        simp -dsimp -implicitDefEqProofs (disch := first | with_reducible assumption | omega) [go_sem, g0, g1, g2, dueC]
        refine ⟨j + 1, ⟨by omega, fun i hi => ?_⟩, by omega, by simp [Ent, List.lookup], Drop.refl _ _⟩
        by_cases e : i = j
        · subst e; rw [← hx]; exact nx
        · exact j2 i (by omega)
    · have nx : sameK d x = false := by simp [sameK, d1]
      simp -dsimp -implicitDefEqProofs (disch := first | with_reducible assumption | omega) [go_sem]
      refine xdraw (by kernel_rfl) rfl ?_
      simp -dsimp -implicitDefEqProofs (disch := first | with_reducible assumption | omega) [go_sem, g0, g1, g2, dueC]
      refine ⟨j + 1, ⟨by omega, fun i hi => ?_⟩, by omega, by simp [Ent, List.lookup], Drop.refl _ _⟩
      by_cases e : i = j
      · subst e; rw [← hx]; exact nx
      · exact j2 i (by omega)
  have hj : j = l.length := by omega
  subst hj
  rw [oweL, if_neg c0, if_neg (fstK_no j2)] at hk
  rw [ea]
  simp -dsimp -implicitDefEqProofs (disch := first | with_reducible assumption | omega) [go_sem]
  rw [← ea]
  refine xloop (γ := Nat) 0 (fun j => j ≤ l.length) (fun j => [(9, .int .i64 j), (8, .int .i64 (placeL l d.at' j)), (6, ovs o l.length), (3, .pointer (some ⟨b3, 0, none⟩)), (0, .slice va l.length vc)]) (fun _ => oent 204 3 o (l.flatMap dueC) (⟨b3, 204, dueC d, 3⟩ :: L)) (fun _ => h) (fun j => l.length - j) ?_ ?_ ?_ ?_
  · exact Nat.zero_le _
  · simp [Ent, List.lookup, placeL]
  · exact Drop.refl _ _
  rintro j j1
  by_cases c1 : j < l.length
  · obtain ⟨x, hx⟩ : ∃ x, x = gr zeroDue l j := ⟨_, rfl⟩
    have f1 : ∀ (L : Own) (K : Value → Prop) (t : Tok K), xCell L h (elem va (j * 3 + 1)) 0 K t = K (.int .i64 x.at') := fun L K t => Recs.fld zeroDue hvR c1 (o := 1) (by rw [← hx]; rfl) L K t
    by_cases c2 : x.at' ≤ d.at'
    · have e1 : placeL l d.at' (j + 1) = j + 1 := placeL_here (by rw [← hx]; exact c2)
      simp -dsimp -implicitDefEqProofs (disch := first | with_reducible assumption | omega) [go_sem]
      refine xdraw (by kernel_rfl) rfl ?_
      simp -dsimp -implicitDefEqProofs (disch := first | with_reducible assumption | omega) [go_sem, xFind_oent n3, ↓idxR zeroDue (by decide) hvR, f1, dueC]
      exact ⟨j + 1, by omega, by omega, by simp [Ent, List.lookup, e1], Drop.refl _ _⟩
    · have e1 : placeL l d.at' (j + 1) = placeL l d.at' j := placeL_step (by rw [← hx]; exact c2)
      simp -dsimp -implicitDefEqProofs (disch := first | with_reducible assumption | omega) [go_sem]
      refine xdraw (by kernel_rfl) rfl ?_
      simp -dsimp -implicitDefEqProofs (disch := first | with_reducible assumption | omega) [go_sem, xFind_oent n3, ↓idxR zeroDue (by decide) hvR, f1, dueC]
      exact ⟨j + 1, by omega, by omega, by simp [Ent, List.lookup, e1], Drop.refl _ _⟩
  have hj : j = l.length := by omega
  subst hj
  obtain ⟨p, hp⟩ : ∃ p, p = placeL l d.at' l.length := ⟨_, rfl⟩
  have hpl := placeL_le l d.at' l.length
  have hins : insD l d = l.take p ++ d :: l.drop p := by rw [hp]; rfl
  rw [hins] at hk
  rw [← hp] at hpl ⊢
  obtain ⟨a2, c2, ea2, eb2, hc2⟩ := ovs_cut ok1 hpl
  simp -dsimp -implicitDefEqProofs (disch := first | with_reducible assumption | omega) [go_sem]
  refine xanyl (.tk 0 (.tk 1 (.tk 2 (.tkl 3 (.or true 4 (.or true 5 (.tk 6 (.fin)) (.nil)) (.nil)))))) (by kernel_rfl) (by kernel_rfl) [⟨b3, 204, dueC d, 3⟩] (Drop.oent _ _ _ _ _ _ |>.trans (drop_left [_] _ _)) ?_
  simp -dsimp -implicitDefEqProofs (disch := first | with_reducible assumption | omega) [go_sem]
  rw [ea2]
  repeat' first
    | with_reducible refine xpl_or ?_ ?_
    | with_reducible refine xkp ((Drop.tail _ _ _).trans ((Drop.oent _ _ _ _ _ _).trans (drop_left [_] _ _))) ?_
    | simp -dsimp -implicitDefEqProofs (disch := first | with_reducible assumption | omega) [go_sem, dueC]
    | with_reducible refine xnew fun bv n_bv h_bv => ?_
  rw [← eb2]
  have e2 : ((l.take p).flatMap dueC).length = p * 3 := by rw [flatG_len dueC_len, List.length_take, Nat.min_eq_left hpl]
  have e1 : (l.flatMap dueC).take (p * 3) = (l.take p).flatMap dueC := by
    conv => lhs; rw [← List.take_append_drop p l]
    rw [List.flatMap_append, List.take_append_of_le_length (by omega), ← e2, List.take_length]
  refine xact_weaken (drop_take_at [_] 204 3 (p * 3) o _ _ _) ?_
  rw [e1]
  refine xappend (t := 46) (e := 204) (sz := 3) (bytes := 24) due46_under tI_204 rfl rfl rfl rfl (by decide) [_] _ o p _ (okO_le ok1 hpl) e2 (Src.own List.mem_cons_self) (m := 1) (news := dueC d) rfl (dueC_one d) (by simp [maxLen]; omega) (by omega) ?_
  intro o2 k1 k2 k3
  simp only [List.cons_append, List.nil_append] at k2 ⊢
  first
  | refine xkp ((Drop.tail _ _ _).trans ((Drop.oent _ _ _ _ _ _).trans (drop_left [_] _ _))) ?_
  | skip
  simp -dsimp -implicitDefEqProofs (disch := first | with_reducible assumption | omega) [go_sem, xSl_lo due46]
  have hdr := (hv0.s.drop p hpl)
  have e3 : (l.flatMap dueC).drop (p * 3) = (l.drop p).flatMap dueC := by
    conv => lhs; rw [← List.take_append_drop p l]
    rw [List.flatMap_append, ← e2, List.drop_left]
  rw [e3] at hdr
  refine xappend (t := 46) (e := 204) (sz := 3) (bytes := 24) due46_under tI_204 rfl rfl rfl rfl (by decide) [_] _ o2 (p + 1) _ k1 (by rw [List.length_append, e2, show (dueC d).length = 3 from rfl]; omega) (Src.known hdr) (m := l.length - p) (news := (l.drop p).flatMap dueC) (by rw [flatG_len dueC_len, List.length_drop]) (flatI_one dueC_one _) (by simp [maxLen]; omega) (by omega) ?_
  intro o3 m1 m2 m3
  simp -dsimp -implicitDefEqProofs (disch := first | with_reducible assumption | omega) [go_sem]
  have e4 : (l.take p).flatMap dueC ++ (dueC d ++ (l.drop p).flatMap dueC) = (l.take p ++ d :: l.drop p).flatMap dueC := by
    rw [List.flatMap_append, List.flatMap_cons]
  have e5 : p + 1 + (l.length - p) = (l.take p ++ d :: l.drop p).length := by simp; omega
  rw [e5] at m1 ⊢
  rw [e4]
  refine fin_tail (fin_pub (e := 204) m1 (flatG_len dueC_len _) (by simp; omega) (apO_tail m2) fun h' le sl => fin_tail (fin_here (hk h' _ le (Recs.pub dueC_len sl))))
theorem apO_pub3 {e sz : Nat} {o o2 : Option (Nat × Nat)} {ys zs : List Value} {L L' : Own} {h : PH} (h2 : apO o2 (oent e sz o ys L) h) (h1 : apO o L' h) : apO o [] (pubO h o2 zs) := by
  cases o with
  | none => trivial
  | some p => cases o2 with
    | none => exact ⟨trivial, h1.2⟩
    | some p2 => exact ⟨trivial, pubO_noC (o := some p2) (Ne.symm h2.1.1) h1.2⟩
set_option maxHeartbeats 3200000 in
/-- the state in memory of its own, as far as adoption writes it -/
theorem own24r_any {s : StD} (v : SV) (hs : IsSt h v s) (few : OwnFew s)
    (hk : ∀ (h' : PH) (e x : Value) (op om : Option (Nat × Nat)), PH.le h h' → okO op s.purses.length → okO om s.members.length → Ints h' .i64 e s.entry → Ints h' .i64 x s.exit → K (stV s ⟨ovs op s.purses.length, ovs om s.members.length, e, x, v.o, v.d, v.t, v.k, v.r⟩) (oent 142 6 om (s.members.flatMap memC) (oent 22 1 op (s.purses.map (.int .u64)) L)) h') : Spec Tryz.prog 114 [stV s v] L h K := by
  have fm := few.m
  have fp := few.p
  have fe := few.e
  have fx := few.x
  obtain ⟨pa, pc, ma, mc, ea, ec, xa, xc, oa, oc, da, dc, ta, tc, ka, kc, ra, rc, rfl⟩ := hs.slices
  refine x_enter Tryz.func114 rfl (rs := [_]) rfl rfl mixed (by kernel_rfl) rfl rfl ?_
  simp -dsimp -implicitDefEqProofs (disch := first | with_reducible assumption | omega) [go_sem]
  refine xnew fun b1 n_b1 h_b1 => ?_
  try simp only [Apart] at n_b1
  simp -dsimp -implicitDefEqProofs (disch := first | with_reducible assumption | omega) [go_sem]
  refine xnew fun b2 n_b2 h_b2 => ?_
  try simp only [Apart] at n_b2
  simp -dsimp -implicitDefEqProofs (disch := first | with_reducible assumption | omega) [go_sem]
  have ALP : ∀ (L : Own) (K : PK), (∀ o', okO o' s.purses.length → apO o' L h → K (ovs o' s.purses.length) (oent 22 1 o' (s.purses.map (.int .u64)) L) h) → xAct Tryz.prog (Builtin.append_ #[25, 25] 25 #[.slice none 0 0, .slice pa s.purses.length pc]) L h K := fun L K hk => by
    refine xappend (t := 25) (e := 22) (sz := 1) (bytes := 8) (by kernel_rfl) tI_22 rfl rfl rfl rfl (by decide) [] L none 0 [] rfl rfl (Src.known hs.p.1) (by simp) (fun u hu => ?_) (by simp [maxLen]; omega) (by omega) fun o' j1 j2 _ => ?_
    · obtain ⟨z, _, rfl⟩ := List.mem_map.1 hu; rfl
    · simp only [Nat.zero_add, List.nil_append] at j1 j2 ⊢
      exact hk o' j1 j2
  have ALM : ∀ (L : Own) (K : PK), (∀ o', okO o' s.members.length → apO o' L h → K (ovs o' s.members.length) (oent 142 6 o' (s.members.flatMap memC) L) h) → xAct Tryz.prog (Builtin.append_ #[44, 44] 44 #[.slice none 0 0, .slice ma s.members.length mc]) L h K := fun L K hk => by
    refine xappend (t := 44) (e := 142) (sz := 6) (bytes := 48) (by kernel_rfl) tI_142 rfl rfl rfl rfl (by decide) [] L none 0 [] rfl rfl (Src.known hs.m.s) (flatG_len memC_len _) (flatI_one memC_one _) (by simp [maxLen]; omega) (by omega) fun o' j1 j2 _ => ?_
    simp only [Nat.zero_add, List.nil_append] at j1 j2 ⊢
    exact hk o' j1 j2
  have ALI : ∀ (xs : List Int) (a : Option Addr) (c : Nat) (L : Own) (K : PK), Ints h .i64 (.slice a xs.length c) xs → xs.length ≤ 1000 → (∀ o', okO o' xs.length → apO o' L h → K (ovs o' xs.length) (oent 3 1 o' (xs.map (.int .i64)) L) h) → xAct Tryz.prog (Builtin.append_ #[27, 27] 27 #[.slice none 0 0, .slice a xs.length c]) L h K := fun xs a c L K hx hl hk => by
    refine xappend (t := 27) (e := 3) (sz := 1) (bytes := 8) (by kernel_rfl) tI_3 rfl rfl rfl rfl (by decide) [] L none 0 [] rfl rfl (Src.known hx.1) (by simp) (fun u hu => ?_) (by simp [maxLen]; omega) (by omega) fun o' j1 j2 _ => ?_
    · obtain ⟨z, _, rfl⟩ := List.mem_map.1 hu; rfl
    · simp only [Nat.zero_add, List.nil_append] at j1 j2 ⊢
      exact hk o' j1 j2
  refine ALP _ _ fun op okp app => ?_
  have p2 : apB op b2 := app.head
  have p1 : apB op b1 := (apO_tail app).head
  simp -dsimp -implicitDefEqProofs (disch := first | with_reducible assumption | omega) [go_sem, xSet_oent p1, xFind_oent p1]
  refine ALM _ _ fun om okm apm => ?_
  have apm0 := apO_oent apm
  have m2 : apB om b2 := apm0.head
  have m1 : apB om b1 := (apO_tail apm0).head
  simp -dsimp -implicitDefEqProofs (disch := first | with_reducible assumption | omega) [go_sem, xSet_oent p1, xFind_oent p1, xSet_oent m1, xFind_oent m1]
  refine ALI _ _ _ _ _ hs.e (by omega) fun oe oke ape => ?_
  have ape0 := apO_oent (apO_oent ape)
  have e2 : apB oe b2 := ape0.head
  have e1 : apB oe b1 := (apO_tail ape0).head
  simp -dsimp -implicitDefEqProofs (disch := first | with_reducible assumption | omega) [go_sem, xSet_oent p1, xFind_oent p1, xSet_oent m1, xFind_oent m1, xSet_oent e1, xFind_oent e1]
  refine ALI _ _ _ _ _ hs.x (by omega) fun ox okx apx => ?_
  have apx0 := apO_oent (apO_oent (apO_oent apx))
  have x2 : apB ox b2 := apx0.head
  have x1 : apB ox b1 := (apO_tail apx0).head
  simp -dsimp -implicitDefEqProofs (disch := first | with_reducible assumption | omega) [go_sem, xSet_oent p1, xFind_oent p1, xSet_oent m1, xFind_oent m1, xSet_oent e1, xFind_oent e1, xSet_oent x1, xFind_oent x1, xSet_oent p2, xFind_oent p2, xSet_oent m2, xFind_oent m2, xSet_oent e2, xFind_oent e2, xSet_oent x2, xFind_oent x2]
  have z1 := apO_pub3 (zs := s.exit.map (.int .i64)) apx ape
  have l1 := pub_le_o apx (s.exit.map (.int .i64))
  have l2 := pub_le_o z1 (s.entry.map (.int .i64))
  have sx := pub_sl (h := h) (sz := 1) (n := s.exit.length) (o := ox) (xs := s.exit.map (.int .i64)) okx (by simp) (by omega)
  have se := pub_sl (h := pubO h ox (s.exit.map (.int .i64))) (sz := 1) (n := s.entry.length) (o := oe) (xs := s.entry.map (.int .i64)) oke (by simp) (by omega)
  refine ⟨_, _, (pub_drop_o ox _ _ _ (by decide)).trans ((pub_drop_o oe _ _ _ (by decide)).trans ((Drop.perm _ ((oent_congr om _ (oent_perm_app [_, _]).symm).trans (oent_perm_app [_, _]).symm)).trans ((Drop.tail _ _ _).trans (Drop.tail _ _ _)))), hk _ _ _ op om (l1.trans l2) okp okm ⟨se, hs.e.2⟩ ⟨sx.up l2, hs.x.2⟩⟩
end Go.X

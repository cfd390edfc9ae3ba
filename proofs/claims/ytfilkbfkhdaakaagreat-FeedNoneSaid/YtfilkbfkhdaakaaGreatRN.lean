/- The contract of the law FeedNone. Conditions: the value reads as bytes. -/
import Derived.Test.YtfilkbfkhdaakaaGreatRF
import Derived.Test.YtfilkbfkhdaakaaGreatST
set_option linter.unusedVariables false
set_option linter.unusedSimpArgs false
namespace Go.X
open Go.RowKit Go.Proofs Go.Bl
variable {L : Own} {h : PH} {K : PK}
/-- an inbox that is none -/
def NoIn (v : Value) (L : Own) (h : PH) : Prop := ∀ K : PK, K (.bool false) L h → Spec Tryz.prog 162 [v] L h K
theorem noin_nil : NoIn (.pointer none) L h := fun K hk => by
  refine x_enter Tryz.func162 rfl (rs := [_]) rfl rfl mixed (by kernel_rfl) rfl rfl ?_
  simp -dsimp -implicitDefEqProofs (disch := first | with_reducible assumption | omega) [go_sem]
  exact fin_here hk
theorem noin_zero {b : Nat} : NoIn (.pointer (some ⟨b, 0, none⟩)) (⟨b, 117, [.int .u64 0, .int .i64 0, .int .i64 0, .map none, .int .i64 0], 5⟩ :: L) h := fun K hk => by
  refine x_enterA Tryz.func162 rfl (rs := [_]) rfl rfl mixed (by kernel_rfl) rfl rfl fun ap nd => ?_
  obtain ⟨ap1, _⟩ := ap
  simp -dsimp -implicitDefEqProofs (disch := first | with_reducible assumption | omega) [go_sem]
  exact fin_here hk
theorem noin_add {v : Value} (hn : NoIn v L h) (u : Value) (hk : K (.tuple #[.bool false, .int .i64 1]) L h) : Spec Tryz.prog 55 [v, u] L h K := by
  refine x_enter Tryz.func55 rfl (rs := [_, _]) rfl rfl mixed (by kernel_rfl) rfl rfl ?_
  simp -dsimp -implicitDefEqProofs (disch := first | with_reducible assumption | omega) [go_sem]
  refine hn _ ?_
  simp -dsimp -implicitDefEqProofs (disch := first | with_reducible assumption | omega) [go_sem]
  exact fin_here hk
theorem noin_text {v : Value} (hn : NoIn v L h) (hk : K (.tuple #[.slice none 0 0, .bool false]) L h) : Spec Tryz.prog 56 [v] L h K := by
  refine x_enter Tryz.func56 rfl (rs := [_, _]) rfl rfl mixed (by kernel_rfl) rfl rfl ?_
  simp -dsimp -implicitDefEqProofs (disch := first | with_reducible assumption | omega) [go_sem]
  refine hn _ ?_
  simp -dsimp -implicitDefEqProofs (disch := first | with_reducible assumption | omega) [go_sem]
  exact fin_here hk
theorem noin_missing {v : Value} (hn : NoIn v L h) (hk : K (.slice none 0 0) L h) : Spec Tryz.prog 58 [v] L h K := by
  refine x_enter Tryz.func58 rfl (rs := [_]) rfl rfl mixed (by kernel_rfl) rfl rfl ?_
  simp -dsimp -implicitDefEqProofs (disch := first | with_reducible assumption | omega) [go_sem]
  refine hn _ ?_
  simp -dsimp -implicitDefEqProofs (disch := first | with_reducible assumption | omega) [go_sem]
  exact fin_here hk
set_option maxRecDepth 20000 in
theorem noin_state {v : Value} (hn : ∀ x : Blk, Apart x.b L → NoIn v (x :: L) h) (hk : K (.tuple #[stV zeroS nilV, .int .i64 1]) L h) : Spec Tryz.prog 57 [v] L h K := by
  refine x_enter Tryz.func57 rfl (rs := [_, _]) rfl rfl mixed (by kernel_rfl) rfl rfl ?_
  simp -dsimp -implicitDefEqProofs (disch := first | with_reducible assumption | omega) [go_sem]
  refine xnew fun b2 n_b2 h_b2 => ?_
  simp -dsimp -implicitDefEqProofs (disch := first | with_reducible assumption | omega) [go_sem]
  refine hn _ n_b2 _ ?_
  simp -dsimp -implicitDefEqProofs (disch := first | with_reducible assumption | omega) [go_sem]
  exact fin_tail (fin_here hk)
theorem ap_mem : ∀ {L : Own} {h : PH}, Ap L h → ∀ e ∈ L, h e.b = noC
  | [], _, _, e, he => by cases he
  | x :: L, h, ap, e, he => by
    rcases List.mem_cons.1 he with rfl | he
    · exact ap.1
    · exact ap_mem ap.2 e he
theorem xFind_mem {b ty c o : Nat} {cs : List Value} {u : Value} (hT : ty ≠ 4294967295) (hv : cs[o]? = some u) : ∀ {L : Own}, (⟨b, ty, cs, c⟩ : Blk) ∈ L → Nd L → ∀ (K : Value → Prop) (t : Tok K), xFind L b o K t = K u
  | [], hm, _, K, t => by cases hm
  | e :: L, hm, nd, K, t => by
    obtain ⟨nd1, nd2⟩ := nd
    rcases List.mem_cons.1 hm with he | hm2
    · subst he
      have h1 := xFind_hit (K := K) (L := L) b ty o c cs hT
      rw [h1, xPut_eq, xNth_of hv]
    · have hne : e.b ≠ b := fun hb => (of_apart nd1 _ hm2) hb.symm
      obtain ⟨eb, et, ecs, ec⟩ := e
      have h1 := xFind_miss (K := K) (L := L) b eb et o ec ecs hne
      rw [h1]
      exact xFind_mem hT hv hm2 nd2 K ⟨⟩
theorem noin_in {b : Nat} (hm : (⟨b, 117, [.int .u64 0, .int .i64 0, .int .i64 0, .map none, .int .i64 0], 5⟩ : Blk) ∈ L) : NoIn (.pointer (some ⟨b, 0, none⟩)) L h := fun K hk => by
  refine x_enterA Tryz.func162 rfl (rs := [_]) rfl rfl mixed (by kernel_rfl) rfl rfl fun ap nd => ?_
  have hb : h b = noC := ap_mem ap _ hm
  have hf : ∀ (K : Value → Prop) (t : Tok K), xFind L b 3 K t = K (.map none) := fun K t => xFind_mem (by decide) rfl hm nd K t
  simp -dsimp -implicitDefEqProofs (disch := first | with_reducible assumption | omega) [go_sem, hf]
  exact fin_here hk
set_option maxHeartbeats 4000000 in
set_option maxRecDepth 20000 in
theorem feednone_any {xs : List Int} (v : Value) (hx0 : Ints h .u8 v xs) (hk : ∀ h', PH.le h h' → K (.bool true) L h') : Spec Tryz.prog 12 [v] L h K := by
  have ox := hx0.open
  obtain ⟨xa, xc, rfl, _, hxl, _⟩ := ox
  refine x_enter Tryz.func12 rfl (rs := [_]) rfl rfl mixed (by kernel_rfl) rfl rfl ?_
  simp -dsimp -implicitDefEqProofs (disch := first | with_reducible assumption | omega) [go_sem]
  refine awake37_any fun h2 le2 => ?_
  simp -dsimp -implicitDefEqProofs (disch := first | with_reducible assumption | omega) [go_sem]
  refine xnew fun b15 n_b15 h_b15 => ?_
  try simp only [Apart] at n_b15
  simp -dsimp -implicitDefEqProofs (disch := first | with_reducible assumption | omega) [go_sem]
  refine call_pub_at (sz := 1) (n := 1) (cap := 1) [] ⟨Nat.le_refl _, by simp [maxLen]⟩ rfl (by decide) (by assumption) fun h3 le3 s3 f3 => ?_
  simp only [List.nil_append]
  refine few37_any (q := [(.slice xa xs.length xc, xs)]) _ ⟨s3, fun p hp => by rw [List.mem_singleton.1 hp]; exact hx0.up (le2.trans le3)⟩ fun h4 b le4 hb => ?_
  cases b with
  | false =>
    simp -dsimp -implicitDefEqProofs (disch := first | with_reducible assumption | omega) [go_sem]
    exact fin_here (hk h4 (le2.trans (le3.trans le4)))
  | true =>
  have le04 := le2.trans (le3.trans le4)
  simp -dsimp -implicitDefEqProofs (disch := first | with_reducible assumption | omega) [go_sem]
  refine xnew fun b20 n_b20 h_b20 => ?_
  try simp only [Apart] at n_b20
  simp -dsimp -implicitDefEqProofs (disch := first | with_reducible assumption | omega) [go_sem]
  refine xnew fun b21 n_b21 h_b21 => ?_
  try simp only [Apart] at n_b21
  simp -dsimp -implicitDefEqProofs (disch := first | with_reducible assumption | omega) [go_sem]
  refine xloop (γ := Nat × PH) (0, h4) (fun s => s.1 ≤ 2 ∧ PH.le h4 s.2 ∧ s.2 b20 = noC ∧ s.2 b21 = noC) (fun s => [(23, .int .i64 s.1), (22, .int .i64 2), (21, .slice (some ⟨b21, 0, none⟩) 2 2), (0, .slice xa xs.length xc)])
    (fun _ => ⟨b21, 112, [.pointer none, .pointer (some ⟨b20, 0, none⟩)], 2⟩ :: ⟨b20, 117, [.int .u64 0, .int .i64 0, .int .i64 0, .map none, .int .i64 0], 5⟩ :: L) (fun s => s.2) (fun s => 2 - s.1) ?_ ?_ ?_ ?_
  · exact ⟨Nat.zero_le _, PH.le_refl _, by assumption, by assumption⟩
  · simp [Ent, List.lookup, xEnv]
  · exact Drop.refl _ _
  rintro ⟨k, hh⟩ ⟨i1, i2, i3, i4⟩
  simp only at i1 i2 i3 i4 ⊢
  by_cases c1 : k < 2
  · have k2 : k = 0 ∨ k = 1 := by omega
    rcases k2 with rfl | rfl
    · simp -dsimp -implicitDefEqProofs (disch := first | with_reducible assumption | omega) [go_sem]
      refine noin_add (noin_nil) _ ?_
      simp -dsimp -implicitDefEqProofs (disch := first | with_reducible assumption | omega) [go_sem]
      refine noin_text (noin_nil) ?_
      simp -dsimp -implicitDefEqProofs (disch := first | with_reducible assumption | omega) [go_sem]
      refine noin_state (fun x hx => noin_nil) ?_
      simp -dsimp -implicitDefEqProofs (disch := first | with_reducible assumption | omega) [go_sem, zeroS, zeroP, nilV]
      refine xnew fun b10 n_b10 h_b10 => ?_
      try simp only [Apart] at n_b10
      simp -dsimp -implicitDefEqProofs (disch := first | with_reducible assumption | omega) [go_sem, zeroS, zeroP, nilV]
      refine noin_missing (noin_nil) ?_
      simp -dsimp -implicitDefEqProofs (disch := first | with_reducible assumption | omega) [go_sem]
      refine Spec.apn (plain24_any (s := zeroS) (v := nilV) (isSt_zero hh) (by simp [zeroS]) (by simp [zeroS]) (by simp [zeroS]) (by simp [zeroS]) fun h8 u le8 hu ap nd => ?_)
      simp only [Ap] at ap
      obtain ⟨v10, v21, v20, _⟩ := ap
      simp -dsimp -implicitDefEqProofs (disch := first | with_reducible assumption | omega) [go_sem]
      refine same24_like (s := zeroS) (v := u) (u := nilV) hu (isSt_zero h8) ?_
      simp -dsimp -implicitDefEqProofs (disch := first | with_reducible assumption | omega) [go_sem]
      exact ⟨1, h8, ⟨by omega, i2.trans le8, v20, v21⟩, by omega, by simp [Ent, List.lookup], Drop.tail _ _ _⟩
    · simp -dsimp -implicitDefEqProofs (disch := first | with_reducible assumption | omega) [go_sem]
      refine noin_add (noin_in (List.mem_cons_of_mem _ List.mem_cons_self)) _ ?_
      simp -dsimp -implicitDefEqProofs (disch := first | with_reducible assumption | omega) [go_sem]
      refine noin_text (noin_in (List.mem_cons_of_mem _ List.mem_cons_self)) ?_
      simp -dsimp -implicitDefEqProofs (disch := first | with_reducible assumption | omega) [go_sem]
      refine noin_state (fun x hx => noin_in (List.mem_cons_of_mem _ (List.mem_cons_of_mem _ List.mem_cons_self))) ?_
      simp -dsimp -implicitDefEqProofs (disch := first | with_reducible assumption | omega) [go_sem, zeroS, zeroP, nilV]
      refine xnew fun b10 n_b10 h_b10 => ?_
      try simp only [Apart] at n_b10
      simp -dsimp -implicitDefEqProofs (disch := first | with_reducible assumption | omega) [go_sem, zeroS, zeroP, nilV]
      refine noin_missing (noin_in (List.mem_cons_of_mem _ (List.mem_cons_of_mem _ List.mem_cons_self))) ?_
      simp -dsimp -implicitDefEqProofs (disch := first | with_reducible assumption | omega) [go_sem]
      refine Spec.apn (plain24_any (s := zeroS) (v := nilV) (isSt_zero hh) (by simp [zeroS]) (by simp [zeroS]) (by simp [zeroS]) (by simp [zeroS]) fun h8 u le8 hu ap nd => ?_)
      simp only [Ap] at ap
      obtain ⟨v10, v21, v20, _⟩ := ap
      simp -dsimp -implicitDefEqProofs (disch := first | with_reducible assumption | omega) [go_sem]
      refine same24_like (s := zeroS) (v := u) (u := nilV) hu (isSt_zero h8) ?_
      simp -dsimp -implicitDefEqProofs (disch := first | with_reducible assumption | omega) [go_sem]
      exact ⟨2, h8, ⟨by omega, i2.trans le8, v20, v21⟩, by omega, by simp [Ent, List.lookup], Drop.tail _ _ _⟩
  · simp -dsimp -implicitDefEqProofs (disch := first | with_reducible assumption | omega) [go_sem]
    exact fin_tail (fin_tail (fin_here (hk hh (le04.trans i2))))
end Go.X

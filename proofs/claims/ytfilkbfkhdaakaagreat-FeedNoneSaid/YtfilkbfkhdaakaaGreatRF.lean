/- The contract of the chapter's example of feeds, and of the law FeedCuts. Conditions: the value reads as bytes. -/
import Derived.Test.YtfilkbfkhdaakaaGreatRE
set_option linter.unusedVariables false
set_option linter.unusedSimpArgs false
namespace Go.X
open Go.RowKit Go.Proofs Go.Bl
variable {L : Own} {h : PH} {K : PK}
def abcde : List Int := [97, 98, 99, 100, 101]
theorem cut_abc : cutF 7 abcde 2 = [formC (chunkAt 7 abcde 2 0), formC (chunkAt 7 abcde 2 1), formC (chunkAt 7 abcde 2 2)] := rfl
def ab0 : List Int := [7, 0, 3, 5, 2, 97, 98]
def ab1 : List Int := [7, 1, 3, 5, 2, 99, 100]
def ab2 : List Int := [7, 2, 3, 5, 1, 101]
theorem ab_0 : formC (chunkAt 7 abcde 2 0) = ab0 := by simp [formC, chunkAt, abcde, allN, piece, rawN, formN_lt, ab0]
theorem ab_1 : formC (chunkAt 7 abcde 2 1) = ab1 := by simp [formC, chunkAt, abcde, allN, piece, rawN, formN_lt, ab1]
theorem ab_2 : formC (chunkAt 7 abcde 2 2) = ab2 := by simp [formC, chunkAt, abcde, allN, piece, rawN, formN_lt, ab2]
theorem pa_0 : parseC ab0 = (⟨7, 3, 5, 0, [97, 98]⟩, 0) := by kernel_rfl
theorem pa_1 : parseC ab1 = (⟨7, 3, 5, 1, [99, 100]⟩, 0) := by kernel_rfl
theorem pa_2 : parseC ab2 = (⟨7, 3, 5, 2, [101]⟩, 0) := by kernel_rfl
theorem ad_0 (dv : Value) : addP zeroIn ab0 dv = (false, 0, ⟨7, 3, 5, 2, [(0, (dv, [97, 98]))]⟩) := by
  simp [addP, pa_0, fitsP, zeroIn, getT, doneP]
theorem ad_1 (d0 dv : Value) : addP ⟨7, 3, 5, 2, [(0, (d0, [97, 98]))]⟩ ab1 dv = (false, 0, ⟨7, 3, 5, 4, [(0, (d0, [97, 98])), (1, (dv, [99, 100]))]⟩) := by
  simp [addP, pa_1, fitsP, getT, doneP]
theorem ad_2 (d0 d1 dv : Value) : addP ⟨7, 3, 5, 4, [(0, (d0, [97, 98])), (1, (d1, [99, 100]))]⟩ ab2 dv = (true, 0, ⟨7, 3, 5, 5, [(0, (d0, [97, 98])), (1, (d1, [99, 100])), (2, (dv, [101]))]⟩) := by
  simp [addP, pa_2, fitsP, getT, doneP]
theorem tx_abc (d0 d1 d2 : Value) : txtP ⟨7, 3, 5, 5, [(0, (d0, [97, 98])), (1, (d1, [99, 100])), (2, (d2, [101]))]⟩ 3 = abcde := by
  simp [txtP, List.range_succ, getT, abcde]
def Stg (s : InS) : Nat → Prop
  | 0 => s = zeroIn
  | 1 => ∃ d0, s = ⟨7, 3, 5, 2, [(0, (d0, [97, 98]))]⟩
  | 2 => ∃ d0 d1, s = ⟨7, 3, 5, 4, [(0, (d0, [97, 98])), (1, (d1, [99, 100]))]⟩
  | _ => ∃ d0 d1 d2, s = ⟨7, 3, 5, 5, [(0, (d0, [97, 98])), (1, (d1, [99, 100])), (2, (d2, [101]))]⟩
theorem apPair {bi bm : Nat} {s : InS} {L : Own} {h : PH} (ap : Ap (iO bi bm s L) h) : h bi = noC ∧ h bm = noC := ⟨ap.1, ap.2.1⟩
set_option maxHeartbeats 4000000 in
set_option maxRecDepth 20000 in
theorem awake37_any (hk : ∀ h', PH.le h h' → K (.bool true) L h') : Spec Tryz.prog 53 [] L h K := by
  refine x_enter Tryz.func53 rfl (rs := [_]) rfl rfl mixed (by kernel_rfl) rfl rfl ?_
  simp -dsimp -implicitDefEqProofs (disch := first | with_reducible assumption | omega) [go_sem]
  refine xnew fun b1 n_b1 h_b1 => ?_
  try simp only [Apart] at n_b1
  simp -dsimp -implicitDefEqProofs (disch := first | with_reducible assumption | omega) [go_sem]
  refine xconv_const (e := 5) (by kernel_rfl) (by kernel_rfl) (by assumption) fun h2 le2 e2 => ?_
  have ha : Ints h2 .u8 (.slice (some ⟨b1, 0, none⟩) 5 5) abcde := by
    rw [e2]
    exact ⟨pub_sl (o := some (b1, 5)) (n := 5) (sz := 1) (xs := abcde.map (.int .u8)) ⟨Nat.le_refl _, by simp [maxLen]⟩ rfl (by decide), by decide⟩
  simp -dsimp -implicitDefEqProofs (disch := first | with_reducible assumption | omega) [go_sem]
  refine fcut_ok (text := abcde) 7 _ 2 (by decide) ha (by decide) (by decide) (by decide) fun h3 r q le3 hq3 hx3 => ?_
  rw [cut_abc, ab_0, ab_1, ab_2] at hx3
  obtain ⟨qa, qc, rfl, _, _, _, hcx, hq⟩ := hq3.open
  have hql : q.length = 3 := by rw [← xsL_len, hx3]; rfl
  simp -dsimp -implicitDefEqProofs (disch := first | with_reducible assumption | omega) [go_sem, hql]
  refine inew_any fun bi bm => ?_
  have eL : (⟨bi, 117, [.int .u64 zeroIn.feed, .int .i64 zeroIn.all, .int .i64 zeroIn.bytes, .map (some bm), .int .i64 zeroIn.hav], 5⟩ :: ⟨bm, 4294967295, entI .i64 (esT zeroIn.ts), 0⟩ :: L : Own) = iO bi bm zeroIn L := rfl
  simp -dsimp -implicitDefEqProofs (disch := first | with_reducible assumption | omega) [go_sem, hql]
  refine xloop (γ := Nat × InS × PH) (0, zeroIn, h3) (fun t => t.1 ≤ 3 ∧ Stg t.2.1 t.1 ∧ InOk t.2.2 t.2.1 ∧ PH.le h3 t.2.2) (fun t => [(26, .int .i64 t.1), (25, .int .i64 3), (24, .slice qa q.length qc), (3, .pointer (some ⟨bi, 0, none⟩))])
    (fun t => iO bi bm t.2.1 L) (fun t => t.2.2) (fun t => 3 - t.1) ?_ ?_ ?_ ?_
  · exact ⟨Nat.zero_le _, rfl, ⟨(fun e he => by cases he), Nat.zero_le _, ⟨Int.le_refl _, by simp [zeroIn]⟩, ⟨Int.le_refl _, by simp [zeroIn]⟩⟩, PH.le_refl _⟩
  · simp [Ent, List.lookup, xEnv, hql]
  · exact Drop.refl _ _
  rintro ⟨k, s, hh⟩ ⟨i1, i2, i3, i4⟩
  simp only at i1 i2 i3 i4 ⊢
  have hcx' : ∀ j, j < q.length → elemCell hh qa j = some ((fun j => (gs q j).1) j) := fun j hj => elemCell_up i4 (hcx j hj)
  by_cases c1 : k < 3
  · have hx := (hq.up i4).at (i := k) (by omega)
    have hxk := xsL_at (l := q) (i := k) (by omega)
    rw [hx3] at hxk
    have hx0 := hx
    have oh := hx.open
    obtain ⟨x5, y5, hv, _⟩ := oh
    have hlen : (gs q k).2.length ≤ 100 := by
      have : (gs q k).2 ∈ [ab0, ab1, ab2] := List.mem_of_getElem? hxk
      simp only [List.mem_cons, List.not_mem_nil, or_false] at this
      rcases this with e | e | e <;> rw [e] <;> decide
    simp -dsimp -implicitDefEqProofs (disch := first | with_reducible assumption | omega) [go_sem, idx hcx', hv]
    rw [hv] at hx0
    have k3 : k = 0 ∨ k = 1 ∨ k = 2 := by omega
    rcases k3 with rfl | rfl | rfl
    · subst i2
      have hgk : (gs q 0).2 = ab0 := (Option.some.inj hxk).symm
      rw [hgk] at hx0 ⊢
      refine iadd_any (xs := ab0) _ hx0 (by decide) i3 (by simp [zeroIn]) fun h4 dv le4 ok4 => ?_
      rw [ad_0 dv] at ok4 ⊢
      simp -dsimp -implicitDefEqProofs (disch := first | with_reducible assumption | omega) [go_sem]
      exact ⟨1, ⟨7, 3, 5, 2, [(0, (dv, [97, 98]))]⟩, h4, ⟨by omega, ⟨dv, rfl⟩, ok4, i4.trans le4⟩, by omega, by simp [Ent, List.lookup], Drop.refl _ _⟩
    · obtain ⟨d0, rfl⟩ := i2
      have hgk : (gs q 1).2 = ab1 := (Option.some.inj hxk).symm
      rw [hgk] at hx0 ⊢
      refine iadd_any (xs := ab1) _ hx0 (by decide) i3 (by simp [zeroIn]) fun h4 dv le4 ok4 => ?_
      rw [ad_1 d0 dv] at ok4 ⊢
      simp -dsimp -implicitDefEqProofs (disch := first | with_reducible assumption | omega) [go_sem]
      exact ⟨2, ⟨7, 3, 5, 4, [(0, (d0, [97, 98])), (1, (dv, [99, 100]))]⟩, h4, ⟨by omega, ⟨d0, dv, rfl⟩, ok4, i4.trans le4⟩, by omega, by simp [Ent, List.lookup], Drop.refl _ _⟩
    · obtain ⟨d0, d1, rfl⟩ := i2
      have hgk : (gs q 2).2 = ab2 := (Option.some.inj hxk).symm
      rw [hgk] at hx0 ⊢
      refine iadd_any (xs := ab2) _ hx0 (by decide) i3 (by simp [zeroIn]) fun h4 dv le4 ok4 => ?_
      rw [ad_2 d0 d1 dv] at ok4 ⊢
      simp -dsimp -implicitDefEqProofs (disch := first | with_reducible assumption | omega) [go_sem]
      exact ⟨3, ⟨7, 3, 5, 5, [(0, (d0, [97, 98])), (1, (d1, [99, 100])), (2, (dv, [101]))]⟩, h4, ⟨by omega, ⟨d0, d1, dv, rfl⟩, ok4, i4.trans le4⟩, by omega, by simp [Ent, List.lookup], Drop.refl _ _⟩
  · have hk3 : k = 3 := by omega
    subst hk3
    obtain ⟨d0, d1, d2, rfl⟩ := i2
    simp -dsimp -implicitDefEqProofs (disch := first | with_reducible assumption | omega) [go_sem]
    refine itext_any i3 (fun n hn => ?_) fun h6 r6 le6 hr6 => ?_
    · have h3' : n ≤ 3 := by simpa using hn
      have : n = 0 ∨ n = 1 ∨ n = 2 ∨ n = 3 := by omega
      rcases this with rfl | rfl | rfl | rfl <;> simp [txtP, List.range_succ, getT]
    have hdn : doneP ⟨7, 3, 5, 5, [(0, (d0, [97, 98])), (1, (d1, [99, 100])), (2, (d2, [101]))]⟩ = true := rfl
    rw [hdn, if_pos rfl] at hr6
    have ht : txtP ⟨7, 3, 5, 5, [(0, (d0, [97, 98])), (1, (d1, [99, 100])), (2, (d2, [101]))]⟩ (Int.toNat 3) = abcde := tx_abc d0 d1 d2
    simp only at hr6
    rw [ht] at hr6
    rw [hdn]
    have hr6' := hr6
    have or6 := hr6.open
    obtain ⟨x6, y6, rfl, _⟩ := or6
    simp -dsimp -implicitDefEqProofs (disch := first | with_reducible assumption | omega) [go_sem]
    refine xconv_str (e := 5) (by kernel_rfl) (by kernel_rfl) (by kernel_rfl) hr6' ?_
    have es : strB abcde = ⟨#[97, 98, 99, 100, 101]⟩ := rfl
    simp -dsimp -implicitDefEqProofs (disch := first | with_reducible assumption | omega) [go_sem, xBin_eqstr, es]
    exact fin_tail (fin_tail (fin_here (hk h6 (le2.trans (le3.trans (i4.trans le6))))))
theorem fcut_arg {text : List Int} (id : Int) (v : Value) (size : Int) (hx0 : Ints h .u8 v text) (hs : size < 1 ∨ size > 4096) (hk : K (.tuple #[.slice none 0 0, .int .i64 2]) L h) : Spec Tryz.prog 159 [.int .u64 id, v, .int .i64 size] L h K := by
  have ox := hx0.open
  obtain ⟨xa, xc, rfl, _, hxl, _⟩ := ox
  refine x_enter Tryz.func159 rfl (rs := [_, _]) rfl rfl mixed (by kernel_rfl) rfl rfl ?_
  simp -dsimp -implicitDefEqProofs (disch := first | with_reducible assumption | omega) [go_sem]
  by_cases c : size < 1
  · simp -dsimp -implicitDefEqProofs (disch := first | with_reducible assumption | omega) [go_sem]
    exact fin_here hk
  · simp -dsimp -implicitDefEqProofs (disch := first | with_reducible assumption | omega) [go_sem]
    exact fin_here hk
theorem fcut_big {text : List Int} (id : Int) (v : Value) (size : Int) (hx0 : Ints h .u8 v text) (hs : ¬ size < 1) (hs2 : ¬ size > 4096) (hl : (text.length : Int) > 131072) (hk : K (.tuple #[.slice none 0 0, .int .i64 3]) L h) : Spec Tryz.prog 159 [.int .u64 id, v, .int .i64 size] L h K := by
  have ox := hx0.open
  obtain ⟨xa, xc, rfl, _, hxl, _⟩ := ox
  refine x_enter Tryz.func159 rfl (rs := [_, _]) rfl rfl mixed (by kernel_rfl) rfl rfl ?_
  simp -dsimp -implicitDefEqProofs (disch := first | with_reducible assumption | omega) [go_sem]
  exact fin_here hk
end Go.X

/- Contracts of the document's layers 16 (Find), 18 (Add), 20 (Right), 23 (Fits), and of bullionref24's row, pools and Fits. Conditions: the values read as such, or as a state. -/
import Derived.Test.YtfilkbfkhdaakaaGreatSI
set_option linter.unusedVariables false
set_option linter.unusedSimpArgs false
set_option maxRecDepth 20000
namespace Go.X
open Go.RowKit Go.Proofs Go.Bl
variable {L : Own} {h : PH} {K : PK}
theorem in24_any (n lo hi : Int) (hk : K (.bool (wi n lo hi)) L h) : Spec Tryz.prog 69 [.int .i64 n, .int .i64 lo, .int .i64 hi] L h K := by
  unfold wi at hk
  refine x_enter Tryz.func69 rfl (rs := [_]) rfl rfl mixed (by kernel_rfl) rfl rfl ?_
  simp -dsimp -implicitDefEqProofs (disch := first | with_reducible assumption | omega) [go_sem]
  by_cases c : lo ≤ n
  · simp -dsimp -implicitDefEqProofs (disch := first | with_reducible assumption | omega) [go_sem]
    exact fin_here (by simpa [c] using hk)
  · simp -dsimp -implicitDefEqProofs (disch := first | with_reducible assumption | omega) [go_sem]
    exact fin_here (by simpa [c] using hk)
theorem in23_any (n lo hi : Int) (hk : K (.bool (wi n lo hi)) L h) : Spec Tryz.prog 176 [.int .i64 n, .int .i64 lo, .int .i64 hi] L h K := by
  unfold wi at hk
  refine x_enter Tryz.func176 rfl (rs := [_]) rfl rfl mixed (by kernel_rfl) rfl rfl ?_
  simp -dsimp -implicitDefEqProofs (disch := first | with_reducible assumption | omega) [go_sem]
  by_cases c : lo ≤ n
  · simp -dsimp -implicitDefEqProofs (disch := first | with_reducible assumption | omega) [go_sem]
    exact fin_here (by simpa [c] using hk)
  · simp -dsimp -implicitDefEqProofs (disch := first | with_reducible assumption | omega) [go_sem]
    exact fin_here (by simpa [c] using hk)
/-- a place in a list; -1: nowhere -/
def fI (zs : List Int) (x : Int) : Int := if firstN (fun k => decide (at0 zs k = x)) zs.length 0 = zs.length then -1 else (firstN (fun k => decide (at0 zs k = x)) zs.length 0 : Nat)
theorem fI_iff (zs : List Int) (x : Int) : 0 ≤ fI zs x ↔ x ∈ zs := by
  obtain ⟨_, h2, h3, h4⟩ := firstN_spec (fun k => decide (at0 zs k = x)) zs.length 0
  unfold fI
  constructor
  · intro h
    split at h
    · omega
    · rename_i c
      have := h4 (by omega)
      simp only [decide_eq_true_eq] at this
      rw [← this, ← at0_lt (by omega)]
      exact List.getElem_mem _
  · intro h
    obtain ⟨j, hj, e⟩ := List.mem_iff_getElem.1 h
    rw [if_neg]
    · omega
    · intro c
      have := h3 j (by omega) (by omega)
      rw [at0_lt hj] at e
      simp [e] at this
theorem fI_range (zs : List Int) (x : Int) : -1 ≤ fI zs x ∧ fI zs x ≤ zs.length := by
  obtain ⟨_, h2, _⟩ := firstN_spec (fun k => decide (at0 zs k = x)) zs.length 0
  unfold fI
  split <;> omega
theorem fI_hit {zs : List Int} {x : Int} {k : Nat} (h1 : k < zs.length) (h2 : ∀ j, j < k → at0 zs j ≠ x) (h3 : at0 zs k = x) : fI zs x = k := by
  have : firstN (fun k => decide (at0 zs k = x)) zs.length 0 = k := firstN_unique (Nat.zero_le _) (by omega) (fun i _ hi => decide_eq_false (h2 i hi)) (fun _ => decide_eq_true h3)
  unfold fI
  rw [this, if_neg (by omega)]
theorem fI_miss {zs : List Int} {x : Int} (h2 : ∀ j, j < zs.length → at0 zs j ≠ x) : fI zs x = -1 := by
  have : firstN (fun k => decide (at0 zs k = x)) zs.length 0 = zs.length := firstN_unique (Nat.zero_le _) (by omega) (fun i _ hi => decide_eq_false (h2 i hi)) (fun h => by omega)
  unfold fI
  rw [if_pos this]
theorem find16_any {zs : List Int} (v : Value) (x : Int) (hz : Ints h .i64 v zs) (hk : K (.int .i64 (fI zs x)) L h) : Spec Tryz.prog 177 [v, .int .i64 x] L h K := by
  have hn := hz.num
  obtain ⟨a, c, rfl, hcap, hl, _, hcs⟩ := hz.open
  refine x_enter Tryz.func177 rfl (rs := [_]) rfl rfl mixed (by kernel_rfl) rfl rfl ?_
  simp -dsimp -implicitDefEqProofs (disch := first | with_reducible assumption | omega) [go_sem]
  refine xloop' (0 : Nat) (fun k => k ≤ zs.length ∧ ∀ j, j < k → at0 zs j ≠ x) (fun k => [(5, .int .i64 k), (0, .slice a zs.length c), (1, .int .i64 x)]) (fun k => zs.length - k) ?_ ?_ ?_
  · exact ⟨Nat.zero_le _, fun j hj => by omega⟩
  · simp [Ent, List.lookup, xEnv]
  rintro k ⟨k1, k2⟩
  by_cases c1 : k < zs.length
  · by_cases c2 : at0 zs k = x
    · simp -dsimp -implicitDefEqProofs (disch := first | with_reducible assumption | omega) [go_sem, idx hcs]
      rw [fI_hit c1 k2 c2] at hk
      exact fin_here hk
    · simp -dsimp -implicitDefEqProofs (disch := first | with_reducible assumption | omega) [go_sem, idx hcs]
      refine ⟨k + 1, ⟨by omega, fun j hj => ?_⟩, by omega, by simp [Ent, List.lookup], Drop.refl _ _⟩
      by_cases e : j = k
      · subst e; exact c2
      · exact k2 j (by omega)
  · simp -dsimp -implicitDefEqProofs (disch := first | with_reducible assumption | omega) [go_sem]
    rw [fI_miss (fun j hj => k2 j (by omega))] at hk
    exact fin_here hk
theorem right20_any {bs : List Int} (v : Value) (hb : Ints h .u8 v bs) (hk : K (.bool (chkB bs 128)) L h) : Spec Tryz.prog 72 [v] L h K := by
  have hb' := hb
  obtain ⟨a, c, rfl, _⟩ := hb.open
  rw [chk_right bs 128 hb'.byte] at hk
  refine x_enter Tryz.func72 rfl (rs := [_]) rfl rfl mixed (by kernel_rfl) rfl rfl ?_
  simp -dsimp -implicitDefEqProofs (disch := first | with_reducible assumption | omega) [go_sem]
  refine rright_any _ 128 hb' (by decide) (by decide) ?_
  simp -dsimp -implicitDefEqProofs (disch := first | with_reducible assumption | omega) [go_sem]
  exact fin_here hk
theorem add18_any (d : DepD) (ok : DepOk d) (hk : ∀ a n c, K (.tuple #[.slice a n c, .int .i64 (if depB d then 0 else 2)]) L h) : Spec Tryz.prog 178 [.slice none 0 0, depV d] L h K := by
  have ua := ok.a
  have no : depB d = false → K (.tuple #[.slice none 0 0, .int .i64 2]) L h := fun e => by have := hk none 0 0; rwa [e] at this
  refine x_enter Tryz.func178 rfl (rs := [_, _]) rfl rfl mixed (by kernel_rfl) rfl rfl ?_
  simp -dsimp -implicitDefEqProofs (disch := first | with_reducible assumption | omega) [go_sem]
  refine xnew fun b1 n_b1 h_b1 => ?_
  try simp only [Apart] at n_b1
  simp -dsimp -implicitDefEqProofs (disch := first | with_reducible assumption | omega) [go_sem]
  by_cases c1 : d.acct < 0
  · have := no (by simp [depB, wi]; omega)
    simp -dsimp -implicitDefEqProofs (disch := first | with_reducible assumption | omega) [go_sem]
    exact fin_tail (fin_here this)
  by_cases c2 : 63 < d.acct
  · have := no (by simp [depB, wi]; omega)
    simp -dsimp -implicitDefEqProofs (disch := first | with_reducible assumption | omega) [go_sem]
    exact fin_tail (fin_here this)
  by_cases c3 : d.mem < 0
  · have := no (by simp [depB, wi]; omega)
    simp -dsimp -implicitDefEqProofs (disch := first | with_reducible assumption | omega) [go_sem]
    exact fin_tail (fin_here this)
  by_cases c4 : 127 < d.mem
  · have := no (by simp [depB, wi]; omega)
    simp -dsimp -implicitDefEqProofs (disch := first | with_reducible assumption | omega) [go_sem]
    exact fin_tail (fin_here this)
  by_cases c5 : d.amt = 0
  · have := no (by simp [depB, wi]; omega)
    cases c6 : d.new with
    | true =>
      by_cases c7 : 0 < d.mem
      · simp -dsimp -implicitDefEqProofs (disch := first | with_reducible assumption | omega) [go_sem]
        exact fin_tail (fin_here this)
      · simp -dsimp -implicitDefEqProofs (disch := first | with_reducible assumption | omega) [go_sem]
        exact fin_tail (fin_here this)
    | false =>
      simp -dsimp -implicitDefEqProofs (disch := first | with_reducible assumption | omega) [go_sem]
      exact fin_tail (fin_here this)
  by_cases c8 : 4611686018427387904 < d.amt
  · have := no (by simp [depB, wi]; omega)
    cases c6 : d.new with
    | true =>
      by_cases c7 : 0 < d.mem
      · simp -dsimp -implicitDefEqProofs (disch := first | with_reducible assumption | omega) [go_sem]
        exact fin_tail (fin_here this)
      · simp -dsimp -implicitDefEqProofs (disch := first | with_reducible assumption | omega) [go_sem]
        exact fin_tail (fin_here this)
    | false =>
      simp -dsimp -implicitDefEqProofs (disch := first | with_reducible assumption | omega) [go_sem]
      exact fin_tail (fin_here this)
  cases c6 : d.new with
  | true =>
    by_cases c7 : 0 < d.mem
    · have := no (by simp [depB, wi, c6]; omega)
      simp -dsimp -implicitDefEqProofs (disch := first | with_reducible assumption | omega) [go_sem]
      exact fin_tail (fin_here this)
    · have yes : depB d = true := by simp [depB, wi, c6]; omega
      rw [yes] at hk
      simp -dsimp -implicitDefEqProofs (disch := first | with_reducible assumption | omega) [go_sem]
      refine xappend (t := 45) (e := 236) (sz := 4) (bytes := 32) (by kernel_rfl) tI_236 rfl rfl rfl rfl (by decide) [] _ none 0 [] rfl rfl (.inl ⟨rfl, rfl, rfl⟩) (m := 0) (news := []) rfl (fun u hu => by cases hu) (by decide) (by decide) ?_
      intro o1 i1 i2 i3
      have : o1 = none := i3.2 ⟨rfl, rfl⟩
      subst this
      simp -dsimp -implicitDefEqProofs (disch := first | with_reducible assumption | omega) [go_sem, ovs, oent]
      refine xnew fun b2 n_b2 h_b2 => ?_
      try simp only [Apart] at n_b2
      simp -dsimp -implicitDefEqProofs (disch := first | with_reducible assumption | omega) [go_sem, c6]
      refine xappend (t := 45) (e := 236) (sz := 4) (bytes := 32) (by kernel_rfl) tI_236 rfl rfl rfl rfl (by decide) [_] _ none 0 [] rfl rfl (Src.own (b := b2) List.mem_cons_self) (m := 1) (news := [.int .i64 d.acct, .int .i64 d.mem, .int .u64 d.amt, .bool true]) rfl (by intro u hu; simp only [List.mem_cons, List.not_mem_nil, or_false] at hu; rcases hu with rfl | rfl | rfl | rfl <;> rfl) (by decide) (by decide) ?_
      intro o' j1 j2 j3
      have ho := ovs_open j1
      obtain ⟨a', c', e', _⟩ := ho
      rw [e']
      simp -dsimp -implicitDefEqProofs (disch := first | with_reducible assumption | omega) [go_sem]
      exact fin_tail (fin_oent (fin_tail (fin_here (hk _ _ _))))
  | false =>
    have yes : depB d = true := by simp [depB, wi, c6]; omega
    rw [yes] at hk
    simp -dsimp -implicitDefEqProofs (disch := first | with_reducible assumption | omega) [go_sem]
    refine xappend (t := 45) (e := 236) (sz := 4) (bytes := 32) (by kernel_rfl) tI_236 rfl rfl rfl rfl (by decide) [] _ none 0 [] rfl rfl (.inl ⟨rfl, rfl, rfl⟩) (m := 0) (news := []) rfl (fun u hu => by cases hu) (by decide) (by decide) ?_
    intro o1 i1 i2 i3
    have : o1 = none := i3.2 ⟨rfl, rfl⟩
    subst this
    simp -dsimp -implicitDefEqProofs (disch := first | with_reducible assumption | omega) [go_sem, ovs, oent]
    refine xnew fun b2 n_b2 h_b2 => ?_
    try simp only [Apart] at n_b2
    simp -dsimp -implicitDefEqProofs (disch := first | with_reducible assumption | omega) [go_sem, c6]
    refine xappend (t := 45) (e := 236) (sz := 4) (bytes := 32) (by kernel_rfl) tI_236 rfl rfl rfl rfl (by decide) [_] _ none 0 [] rfl rfl (Src.own (b := b2) List.mem_cons_self) (m := 1) (news := [.int .i64 d.acct, .int .i64 d.mem, .int .u64 d.amt, .bool false]) rfl (by intro u hu; simp only [List.mem_cons, List.not_mem_nil, or_false] at hu; rcases hu with rfl | rfl | rfl | rfl <;> rfl) (by decide) (by decide) ?_
    intro o' j1 j2 j3
    have ho := ovs_open j1
    obtain ⟨a', c', e', _⟩ := ho
    rw [e']
    simp -dsimp -implicitDefEqProofs (disch := first | with_reducible assumption | omega) [go_sem]
    exact fin_tail (fin_oent (fin_tail (fin_here (hk _ _ _))))
end Go.X

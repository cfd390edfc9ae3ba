/- Contracts of slices.Clone of lists of records, and of state.Own. Conditions: the values read as lists of at most 1000 elements, as a state. -/
import Derived.Test.YtfilkbfkhdaakaaGreatTN
import Derived.Test.YtfilkbfkhdaakaaGreatXY
set_option linter.unusedVariables false
set_option linter.unusedSimpArgs false
set_option maxRecDepth 20000
namespace Go.X
open Go.RowKit Go.Proofs Go.Bl
variable {L : Own} {h : PH} {K : PK}
theorem flatI_one {α : Type} {f : α → List Value} (h1 : ∀ a, ∀ u ∈ f a, u.oneCell' = true) (l : List α) : ∀ u ∈ l.flatMap f, u.oneCell' = true := fun u hu => by
  obtain ⟨a, _, hb⟩ := List.mem_flatMap.1 hu
  exact h1 a u hb
theorem memC_one (m : MemD) : ∀ u ∈ memC m, u.oneCell' = true := fun u hu => by
  simp only [memC, List.mem_cons, List.not_mem_nil, or_false] at hu
  rcases hu with rfl | rfl | rfl | rfl | rfl | rfl <;> rfl
theorem depC_one (m : DepD) : ∀ u ∈ depC m, u.oneCell' = true := fun u hu => by
  simp only [depC, List.mem_cons, List.not_mem_nil, or_false] at hu
  rcases hu with rfl | rfl | rfl | rfl <;> rfl
theorem dueC_one (m : DueD) : ∀ u ∈ dueC m, u.oneCell' = true := fun u hu => by
  simp only [dueC, List.mem_cons, List.not_mem_nil, or_false] at hu
  rcases hu with rfl | rfl | rfl <;> rfl
theorem slice_one {v : Value} {h : PH} {k : IntKind} {xs : List Int} (hx : Ints h k v xs) : v.oneCell' = true := by
  obtain ⟨a, c, rfl, _⟩ := hx.open
  rfl
theorem motC_one {h : PH} {q : QM} (hq : IsMot h q) : ∀ u ∈ motC q, u.oneCell' = true := fun u hu => by
  have h1 := slice_one hq.y
  have h2 := slice_one hq.n
  simp only [motC, parC, List.mem_cons, List.mem_append, List.not_mem_nil, or_false] at hu
  rcases hu with rfl | rfl | hu | hu
  · rfl
  · rfl
  · obtain rfl | rfl | rfl | rfl | rfl | rfl | rfl | rfl | rfl | rfl | rfl | rfl | rfl | rfl | rfl | rfl | rfl | rfl | rfl | rfl | rfl | rfl | rfl | rfl := hu <;> rfl
  · rcases hu with rfl | rfl | rfl | rfl | rfl | rfl | rfl
    · rfl
    · rfl
    · rfl
    · rfl
    · rfl
    · exact h1
    · exact h2
theorem cloneM_own {l : List MemD} (v : Value) (hv : Recs memC 6 h v l) (hl : l.length ≤ 1000) (hk : ∀ o, okO o l.length → apO o L h → K (ovs o l.length) (oent 94 6 o (l.flatMap memC) L) h) : Spec Tryz.prog 195 [v] L h K := by
  have hx := hv
  obtain ⟨a, ca, rfl, hna, hca, h0, _⟩ := hx.open
  refine x_enter Tryz.func195 rfl (rs := [_]) rfl rfl mixed (by kernel_rfl) rfl rfl ?_
  simp -dsimp -implicitDefEqProofs (disch := first | with_reducible assumption | omega) [go_sem]
  cases ha : a.isNone with
  | true =>
    have ha' : a = none := by simpa using ha
    subst ha'
    have hl0 : l.length = 0 := by have := h0 rfl; omega
    have hx' : l = [] := List.eq_nil_of_length_eq_zero hl0
    subst hx'
    simp -dsimp -implicitDefEqProofs (disch := first | with_reducible assumption | omega) [go_sem]
    exact fin_here (hk none rfl trivial)
  | false =>
    simp -dsimp -implicitDefEqProofs (disch := first | with_reducible assumption | omega) [go_sem]
    refine xnew fun b1 n_b1 h_b1 => ?_
    try simp only [Apart] at n_b1
    simp -dsimp -implicitDefEqProofs (disch := first | with_reducible assumption | omega) [go_sem]
    refine xappend (t := 26) (e := 94) (sz := 6) (bytes := 48) (by kernel_rfl) tI_94 rfl rfl rfl rfl (by decide) [] L (some (b1, 0)) 0 [] ⟨Nat.le_refl _, Nat.zero_le _⟩ rfl (Src.known hx.s) (news := l.flatMap memC) (flatG_len memC_len l) (flatI_one memC_one l) (by simp [maxLen]; omega) (by omega) ?_
    intro o' j1 j2 j3
    simp only [Nat.zero_add, List.nil_append] at j1 j2 ⊢
    simp -dsimp -implicitDefEqProofs (disch := first | with_reducible assumption | omega) [go_sem]
    exact fin_here (hk o' j1 j2)
theorem clonei_any {l : List Int} (v : Value) (hv : Ints h .i64 v l) (hl : l.length ≤ 1000) (hk : ∀ h' r, PH.le h h' → Ints h' .i64 r l → K r L h') : Spec Tryz.prog 196 [v] L h K := by
  have hx := hv
  obtain ⟨a, ca, rfl, hna, hca, h0, _⟩ := hx.open
  refine x_enter Tryz.func196 rfl (rs := [_]) rfl rfl mixed (by kernel_rfl) rfl rfl ?_
  simp -dsimp -implicitDefEqProofs (disch := first | with_reducible assumption | omega) [go_sem]
  cases ha : a.isNone with
  | true =>
    have ha' : a = none := by simpa using ha
    subst ha'
    have hl0 : l.length = 0 := by have := h0 rfl; omega
    have hx' : l = [] := List.eq_nil_of_length_eq_zero hl0
    subst hx'
    simp -dsimp -implicitDefEqProofs (disch := first | with_reducible assumption | omega) [go_sem]
    exact fin_here (hk h _ (PH.le_refl h) (nil_ints h .i64))
  | false =>
    simp -dsimp -implicitDefEqProofs (disch := first | with_reducible assumption | omega) [go_sem]
    refine xnew fun b1 n_b1 h_b1 => ?_
    try simp only [Apart] at n_b1
    simp -dsimp -implicitDefEqProofs (disch := first | with_reducible assumption | omega) [go_sem]
    refine xappend (t := 27) (e := 3) (sz := 1) (bytes := 8) (by kernel_rfl) tI_3 rfl rfl rfl rfl (by decide) [] L (some (b1, 0)) 0 [] ⟨Nat.le_refl _, Nat.zero_le _⟩ rfl (Src.known hx.1) (news := l.map (Value.int .i64)) (by simp) (ints_one _ _) (by simp [maxLen]; omega) (by omega) ?_
    intro o' j1 j2 j3
    simp only [Nat.zero_add, List.nil_append] at j1 j2 ⊢
    simp -dsimp -implicitDefEqProofs (disch := first | with_reducible assumption | omega) [go_sem]
    exact fin_pub (e := 3) (sz := 1) (n := l.length) j1 (by simp) (by omega) j2 fun h' le sl => fin_here (hk h' _ le ⟨sl, hx.2⟩)
theorem clonei_own {l : List Int} (v : Value) (hv : Ints h .i64 v l) (hl : l.length ≤ 1000) (hk : ∀ o, okO o l.length → apO o L h → K (ovs o l.length) (oent 3 1 o (l.map (.int .i64)) L) h) : Spec Tryz.prog 196 [v] L h K := by
  have hx := hv
  obtain ⟨a, ca, rfl, hna, hca, h0, _⟩ := hx.open
  refine x_enter Tryz.func196 rfl (rs := [_]) rfl rfl mixed (by kernel_rfl) rfl rfl ?_
  simp -dsimp -implicitDefEqProofs (disch := first | with_reducible assumption | omega) [go_sem]
  cases ha : a.isNone with
  | true =>
    have ha' : a = none := by simpa using ha
    subst ha'
    have hl0 : l.length = 0 := by have := h0 rfl; omega
    have hx' : l = [] := List.eq_nil_of_length_eq_zero hl0
    subst hx'
    simp -dsimp -implicitDefEqProofs (disch := first | with_reducible assumption | omega) [go_sem]
    exact fin_here (hk none rfl trivial)
  | false =>
    simp -dsimp -implicitDefEqProofs (disch := first | with_reducible assumption | omega) [go_sem]
    refine xnew fun b1 n_b1 h_b1 => ?_
    try simp only [Apart] at n_b1
    simp -dsimp -implicitDefEqProofs (disch := first | with_reducible assumption | omega) [go_sem]
    refine xappend (t := 27) (e := 3) (sz := 1) (bytes := 8) (by kernel_rfl) tI_3 rfl rfl rfl rfl (by decide) [] L (some (b1, 0)) 0 [] ⟨Nat.le_refl _, Nat.zero_le _⟩ rfl (Src.known hx.1) (news := l.map (Value.int .i64)) (by simp) (ints_one _ _) (by simp [maxLen]; omega) (by omega) ?_
    intro o' j1 j2 j3
    simp only [Nat.zero_add, List.nil_append] at j1 j2 ⊢
    simp -dsimp -implicitDefEqProofs (disch := first | with_reducible assumption | omega) [go_sem]
    exact fin_here (hk o' j1 j2)
theorem cloneP_any {l : List DepD} (v : Value) (hv : Recs depC 4 h v l) (hl : l.length ≤ 1000) (hk : ∀ h' r, PH.le h h' → Recs depC 4 h' r l → K r L h') : Spec Tryz.prog 197 [v] L h K := by
  have hx := hv
  obtain ⟨a, ca, rfl, hna, hca, h0, _⟩ := hx.open
  refine x_enter Tryz.func197 rfl (rs := [_]) rfl rfl mixed (by kernel_rfl) rfl rfl ?_
  simp -dsimp -implicitDefEqProofs (disch := first | with_reducible assumption | omega) [go_sem]
  cases ha : a.isNone with
  | true =>
    have ha' : a = none := by simpa using ha
    subst ha'
    have hl0 : l.length = 0 := by have := h0 rfl; omega
    have hx' : l = [] := List.eq_nil_of_length_eq_zero hl0
    subst hx'
    simp -dsimp -implicitDefEqProofs (disch := first | with_reducible assumption | omega) [go_sem]
    exact fin_here (hk h _ (PH.le_refl h) (Recs.nil depC_len h))
  | false =>
    simp -dsimp -implicitDefEqProofs (disch := first | with_reducible assumption | omega) [go_sem]
    refine xnew fun b1 n_b1 h_b1 => ?_
    try simp only [Apart] at n_b1
    simp -dsimp -implicitDefEqProofs (disch := first | with_reducible assumption | omega) [go_sem]
    refine xappend (t := 28) (e := 263) (sz := 4) (bytes := 32) (by kernel_rfl) tI_263 rfl rfl rfl rfl (by decide) [] L (some (b1, 0)) 0 [] ⟨Nat.le_refl _, Nat.zero_le _⟩ rfl (Src.known hx.s) (news := l.flatMap depC) (flatG_len depC_len l) (flatI_one depC_one l) (by simp [maxLen]; omega) (by omega) ?_
    intro o' j1 j2 j3
    simp only [Nat.zero_add, List.nil_append] at j1 j2 ⊢
    simp -dsimp -implicitDefEqProofs (disch := first | with_reducible assumption | omega) [go_sem]
    exact fin_pub (e := 263) (sz := 4) (n := l.length) j1 (flatG_len depC_len l) (by omega) j2 fun h' le sl => fin_here (hk h' _ le (Recs.pub hx.len sl))
theorem cloneD_any {l : List DueD} (v : Value) (hv : Recs dueC 3 h v l) (hl : l.length ≤ 1000) (hk : ∀ h' r, PH.le h h' → Recs dueC 3 h' r l → K r L h') : Spec Tryz.prog 198 [v] L h K := by
  have hx := hv
  obtain ⟨a, ca, rfl, hna, hca, h0, _⟩ := hx.open
  refine x_enter Tryz.func198 rfl (rs := [_]) rfl rfl mixed (by kernel_rfl) rfl rfl ?_
  simp -dsimp -implicitDefEqProofs (disch := first | with_reducible assumption | omega) [go_sem]
  cases ha : a.isNone with
  | true =>
    have ha' : a = none := by simpa using ha
    subst ha'
    have hl0 : l.length = 0 := by have := h0 rfl; omega
    have hx' : l = [] := List.eq_nil_of_length_eq_zero hl0
    subst hx'
    simp -dsimp -implicitDefEqProofs (disch := first | with_reducible assumption | omega) [go_sem]
    exact fin_here (hk h _ (PH.le_refl h) (Recs.nil dueC_len h))
  | false =>
    simp -dsimp -implicitDefEqProofs (disch := first | with_reducible assumption | omega) [go_sem]
    refine xnew fun b1 n_b1 h_b1 => ?_
    try simp only [Apart] at n_b1
    simp -dsimp -implicitDefEqProofs (disch := first | with_reducible assumption | omega) [go_sem]
    refine xappend (t := 29) (e := 109) (sz := 3) (bytes := 24) (by kernel_rfl) tI_109 rfl rfl rfl rfl (by decide) [] L (some (b1, 0)) 0 [] ⟨Nat.le_refl _, Nat.zero_le _⟩ rfl (Src.known hx.s) (news := l.flatMap dueC) (flatG_len dueC_len l) (flatI_one dueC_one l) (by simp [maxLen]; omega) (by omega) ?_
    intro o' j1 j2 j3
    simp only [Nat.zero_add, List.nil_append] at j1 j2 ⊢
    simp -dsimp -implicitDefEqProofs (disch := first | with_reducible assumption | omega) [go_sem]
    exact fin_pub (e := 109) (sz := 3) (n := l.length) j1 (flatG_len dueC_len l) (by omega) j2 fun h' le sl => fin_here (hk h' _ le (Recs.pub hx.len sl))
theorem cloneT_own {l : List QM} (v : Value) (hv : Recs motC 33 h v l) (hm : ∀ x ∈ l, IsMot h x) (hl : l.length ≤ 1000) (hk : ∀ o, okO o l.length → apO o L h → K (ovs o l.length) (oent 127 33 o (l.flatMap motC) L) h) : Spec Tryz.prog 199 [v] L h K := by
  have hx := hv
  obtain ⟨a, ca, rfl, hna, hca, h0, _⟩ := hx.open
  refine x_enter Tryz.func199 rfl (rs := [_]) rfl rfl mixed (by kernel_rfl) rfl rfl ?_
  simp -dsimp -implicitDefEqProofs (disch := first | with_reducible assumption | omega) [go_sem]
  cases ha : a.isNone with
  | true =>
    have ha' : a = none := by simpa using ha
    subst ha'
    have hl0 : l.length = 0 := by have := h0 rfl; omega
    have hx' : l = [] := List.eq_nil_of_length_eq_zero hl0
    subst hx'
    simp -dsimp -implicitDefEqProofs (disch := first | with_reducible assumption | omega) [go_sem]
    exact fin_here (hk none rfl trivial)
  | false =>
    simp -dsimp -implicitDefEqProofs (disch := first | with_reducible assumption | omega) [go_sem]
    refine xnew fun b1 n_b1 h_b1 => ?_
    try simp only [Apart] at n_b1
    simp -dsimp -implicitDefEqProofs (disch := first | with_reducible assumption | omega) [go_sem]
    refine xappend (t := 30) (e := 127) (sz := 33) (bytes := 296) (by kernel_rfl) tI_127 rfl rfl rfl rfl (by decide) [] L (some (b1, 0)) 0 [] ⟨Nat.le_refl _, Nat.zero_le _⟩ rfl (Src.known hx.s) (news := l.flatMap motC) (flatG_len motC_len l) (fun u hu => by obtain ⟨a, hq, hb⟩ := List.mem_flatMap.1 hu; exact motC_one (hm a hq) u hb) (by simp [maxLen]; omega) (by omega) ?_
    intro o' j1 j2 j3
    simp only [Nat.zero_add, List.nil_append] at j1 j2 ⊢
    simp -dsimp -implicitDefEqProofs (disch := first | with_reducible assumption | omega) [go_sem]
    exact fin_here (hk o' j1 j2)
theorem cloneR_own {l : List QS} (v : Value) (hv : Strs h v l) (hl : l.length ≤ 1000) (hk : ∀ o, okO o l.length → apO o L h → K (ovs o l.length) (oent 31 1 o (vsL l) L) h) : Spec Tryz.prog 201 [v] L h K := by
  have hx := hv
  obtain ⟨a, ca, rfl, hna, hca, h0, _⟩ := hx.open
  refine x_enter Tryz.func201 rfl (rs := [_]) rfl rfl mixed (by kernel_rfl) rfl rfl ?_
  simp -dsimp -implicitDefEqProofs (disch := first | with_reducible assumption | omega) [go_sem]
  cases ha : a.isNone with
  | true =>
    have ha' : a = none := by simpa using ha
    subst ha'
    have hl0 : l.length = 0 := by have := h0 rfl; omega
    have hx' : l = [] := List.eq_nil_of_length_eq_zero hl0
    subst hx'
    simp -dsimp -implicitDefEqProofs (disch := first | with_reducible assumption | omega) [go_sem]
    exact fin_here (hk none rfl trivial)
  | false =>
    simp -dsimp -implicitDefEqProofs (disch := first | with_reducible assumption | omega) [go_sem]
    refine xnew fun b1 n_b1 h_b1 => ?_
    try simp only [Apart] at n_b1
    simp -dsimp -implicitDefEqProofs (disch := first | with_reducible assumption | omega) [go_sem]
    refine xappend (t := 32) (e := 31) (sz := 1) (bytes := 24) (by kernel_rfl) tI_31 rfl rfl rfl rfl (by decide) [] L (some (b1, 0)) 0 [] ⟨Nat.le_refl _, Nat.zero_le _⟩ rfl (Src.known hx.s) (news := vsL l) (by simp [vsL]) (fun u hu => by obtain ⟨q, hq, rfl⟩ := List.mem_map.1 hu; exact slice_one (hv.d q hq)) (by simp [maxLen]; omega) (by omega) ?_
    intro o' j1 j2 j3
    simp only [Nat.zero_add, List.nil_append] at j1 j2 ⊢
    simp -dsimp -implicitDefEqProofs (disch := first | with_reducible assumption | omega) [go_sem]
    exact fin_here (hk o' j1 j2)
end Go.X

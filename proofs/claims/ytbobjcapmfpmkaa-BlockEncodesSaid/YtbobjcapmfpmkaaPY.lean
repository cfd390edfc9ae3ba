/- The contract of bullionref08.Form. Conditions: the value reads as a right deed. -/
import Derived.Test.YtbobjcapmfpmkaaPW
set_option linter.unusedVariables false
set_option linter.unusedSimpArgs false
namespace Go.X
open Go.RowKit Go.Proofs Go.Bl
variable {L : Own} {h : PH} {K : PK}
theorem append_own2 {ty : Nat} (a : Blk) {L : Own} {h : PH} {K : PK} (o o2 : Option (Nat × Nat)) (bs ys : List Int) (ho : okO o bs.length) (ho2 : okO o2 ys.length) (hx : apO o2 (a :: oent 5 1 o (bs.map (.int .u8)) L) h) (hy : 0 < ys.length) (hl : bs.length + ys.length ≤ 1000000)
    (hk : ∀ o' b cs cap, okO o' (bs ++ ys).length → a.b ≠ b → K (ovs o' (bs ++ ys).length) (⟨b, 5, cs, cap⟩ :: a :: oent 5 1 o' ((bs ++ ys).map (.int .u8)) L) h) :
    xAct Try.prog (Builtin.append_ #[23, 23] ty #[ovs o bs.length, ovs o2 ys.length]) (oent 5 1 o2 (ys.map (.int .u8)) (a :: oent 5 1 o (bs.map (.int .u8)) L)) h K := by
  cases o2 with
  | none => have : ys.length = 0 := ho2; omega
  | some p =>
    obtain ⟨b2, cap2⟩ := p
    refine xappend (t := 23) (e := 5) (sz := 1) (bytes := 1) (z := [.int .u8 0]) (by kernel_rfl) tI_5 rfl rfl rfl rfl (by decide) (⟨b2, 5, ys.map (.int .u8), cap2 * 1⟩ :: [a]) L o bs.length (bs.map (.int .u8)) ho (by simp) (m := ys.length) (news := ys.map (.int .u8)) (Src.own (b := b2) (t := 5) (cap := cap2 * 1) (by simp)) (by simp) (ints_one _ _) (by simp only [maxLen]; omega) (by omega) ?_
    intro o3 i1 i2 i3
    have := hk o3 b2 (ys.map (.int .u8)) (cap2 * 1) (by simpa using i1) hx.1.1
    rw [List.length_append, List.map_append] at this
    exact this
theorem rformI_any (n : Int) (h0 : 0 ≤ n) (hn : n ≤ 18446744073709551615) (hk : ∀ o, okO o (formN n.toNat).length → apO o L h → K (ovs o (formN n.toNat).length) (oent 5 1 o ((formN n.toNat).map (.int .u8)) L) h) : Spec Try.prog 115 [.int .u64 n] L h K := by
  obtain ⟨m, rfl⟩ := Int.eq_ofNat_of_zero_le h0
  simp only [Int.toNat_natCast] at hk
  exact rform_any m (by omega) _ _ _ hk

set_option maxHeartbeats 4000000 in
set_option maxRecDepth 20000 in
theorem form8_1 {d : DeedD} (bv : Value) (hd : IsDeed h bv d) (hr : rightD d = true) (kk : d.kind = 1) (hk : ∀ o, okO o (encD d).length → K (ovs o (encD d).length) (oent 5 1 o ((encD d).map (.int .u8)) L) h) : Spec Try.prog 53 [deedV d bv] L h K := by
  have ff := rightD_facts hr
  have hamt := hd.ok.a
  have hi := hd.i
  have ob := hd.i.open
  obtain ⟨x1, y1, rfl, _, hlen, _⟩ := ob
  refine x_enter Try.func53 rfl (rs := [_]) rfl rfl mixed (by kernel_rfl) rfl rfl ?_
  simp -dsimp -implicitDefEqProofs (disch := first | with_reducible assumption | omega) [go_sem]
  refine xnew fun b1 n_b1 h_b1 => ?_
  try simp only [Apart] at n_b1
  simp -dsimp -implicitDefEqProofs (disch := first | with_reducible assumption | omega) [go_sem]
  refine num8_any [_] (o := none) (bs := []) d.kind (by omega) (by omega) rfl (by simp) fun o1 B1 e1 g1 l1 => ?_
  simp only [List.length_nil] at l1
  try simp only [List.cons_append, List.nil_append]
  simp -dsimp -implicitDefEqProofs (disch := first | with_reducible assumption | omega) [go_sem]
  refine uses_any _ hi 1 (by simp) ?_
  rw [(by simp [usesB, kk] : usesB d.kind d.what 1 = true)]
  simp -dsimp -implicitDefEqProofs (disch := first | with_reducible assumption | omega) [go_sem]
  refine num8_any [_] (o := o1) (bs := B1) d.acct (by omega) (by omega) g1 (by omega) fun o2 B2 e2 g2 l2 => ?_
  try simp only [List.cons_append, List.nil_append]
  simp -dsimp -implicitDefEqProofs (disch := first | with_reducible assumption | omega) [go_sem]
  refine uses_any _ hi 2 (by simp) ?_
  rw [(by simp [usesB, kk] : usesB d.kind d.what 2 = false)]
  simp -dsimp -implicitDefEqProofs (disch := first | with_reducible assumption | omega) [go_sem]
  refine uses_any _ hi 5 (by simp) ?_
  rw [(by simp [usesB, kk] : usesB d.kind d.what 5 = false)]
  simp -dsimp -implicitDefEqProofs (disch := first | with_reducible assumption | omega) [go_sem]
  refine uses_any _ hi 6 (by simp) ?_
  rw [(by simp [usesB, kk] : usesB d.kind d.what 6 = false)]
  simp -dsimp -implicitDefEqProofs (disch := first | with_reducible assumption | omega) [go_sem]
  refine uses_any _ hi 7 (by simp) ?_
  rw [(by simp [usesB, kk] : usesB d.kind d.what 7 = false)]
  simp -dsimp -implicitDefEqProofs (disch := first | with_reducible assumption | omega) [go_sem]
  refine uses_any _ hi 3 (by simp) ?_
  rw [(by simp [usesB, kk] : usesB d.kind d.what 3 = true)]
  simp -dsimp -implicitDefEqProofs (disch := first | with_reducible assumption | omega) [go_sem]
  refine num8_any [_] (o := o2) (bs := B2) d.to (by omega) (by omega) g2 (by omega) fun o3 B3 e3 g3 l3 => ?_
  try simp only [List.cons_append, List.nil_append]
  simp -dsimp -implicitDefEqProofs (disch := first | with_reducible assumption | omega) [go_sem]
  refine uses_any _ hi 4 (by simp) ?_
  rw [(by simp [usesB, kk] : usesB d.kind d.what 4 = true)]
  simp -dsimp -implicitDefEqProofs (disch := first | with_reducible assumption | omega) [go_sem]
  have lf := form10 (n := d.amt.toNat) (by omega)
  refine rformI_any d.amt (by omega) (by omega) fun q4 t4 m4 => ?_
  try simp only [List.cons_append, List.nil_append]
  simp -dsimp -implicitDefEqProofs (disch := first | with_reducible assumption | omega) [go_sem]
  refine append_own2 _ o3 q4 B3 (formN d.amt.toNat) g3 t4 m4 (formN_pos _) (by omega) fun o4 xb4 xc4 xp4 g4 j4 => ?_
  simp only at j4
  obtain ⟨B4, e4⟩ : ∃ B, B = B3 ++ (formN d.amt.toNat) := ⟨_, rfl⟩
  rw [← e4] at g4 ⊢
  have l4 : B4.length ≤ B3.length + 300 := by rw [e4, List.length_append]; omega
  try simp only [List.cons_append, List.nil_append]
  simp -dsimp -implicitDefEqProofs (disch := first | with_reducible assumption | omega) [go_sem]
  refine uses_any _ hi 8 (by simp) ?_
  rw [(by simp [usesB, kk] : usesB d.kind d.what 8 = false)]
  simp -dsimp -implicitDefEqProofs (disch := first | with_reducible assumption | omega) [go_sem]
  have eE : B4 = encD d := by simp [encD, paidD, wi, kk, e1, e2, e3, e4]
  rw [eE] at g4 ⊢
  exact fin_tail (fin_tail (fin_here (hk _ g4)))
set_option maxHeartbeats 4000000 in
set_option maxRecDepth 20000 in
theorem form8_2 {d : DeedD} (bv : Value) (hd : IsDeed h bv d) (hr : rightD d = true) (kk : d.kind = 2) (hk : ∀ o, okO o (encD d).length → K (ovs o (encD d).length) (oent 5 1 o ((encD d).map (.int .u8)) L) h) : Spec Try.prog 53 [deedV d bv] L h K := by
  have ff := rightD_facts hr
  have hamt := hd.ok.a
  have hi := hd.i
  have ob := hd.i.open
  obtain ⟨x1, y1, rfl, _, hlen, _⟩ := ob
  refine x_enter Try.func53 rfl (rs := [_]) rfl rfl mixed (by kernel_rfl) rfl rfl ?_
  simp -dsimp -implicitDefEqProofs (disch := first | with_reducible assumption | omega) [go_sem]
  refine xnew fun b1 n_b1 h_b1 => ?_
  try simp only [Apart] at n_b1
  simp -dsimp -implicitDefEqProofs (disch := first | with_reducible assumption | omega) [go_sem]
  refine num8_any [_] (o := none) (bs := []) d.kind (by omega) (by omega) rfl (by simp) fun o1 B1 e1 g1 l1 => ?_
  simp only [List.length_nil] at l1
  try simp only [List.cons_append, List.nil_append]
  simp -dsimp -implicitDefEqProofs (disch := first | with_reducible assumption | omega) [go_sem]
  refine uses_any _ hi 1 (by simp) ?_
  rw [(by simp [usesB, kk] : usesB d.kind d.what 1 = true)]
  simp -dsimp -implicitDefEqProofs (disch := first | with_reducible assumption | omega) [go_sem]
  refine num8_any [_] (o := o1) (bs := B1) d.acct (by omega) (by omega) g1 (by omega) fun o2 B2 e2 g2 l2 => ?_
  try simp only [List.cons_append, List.nil_append]
  simp -dsimp -implicitDefEqProofs (disch := first | with_reducible assumption | omega) [go_sem]
  refine uses_any _ hi 2 (by simp) ?_
  rw [(by simp [usesB, kk] : usesB d.kind d.what 2 = false)]
  simp -dsimp -implicitDefEqProofs (disch := first | with_reducible assumption | omega) [go_sem]
  refine uses_any _ hi 5 (by simp) ?_
  rw [(by simp [usesB, kk] : usesB d.kind d.what 5 = false)]
  simp -dsimp -implicitDefEqProofs (disch := first | with_reducible assumption | omega) [go_sem]
  refine uses_any _ hi 6 (by simp) ?_
  rw [(by simp [usesB, kk] : usesB d.kind d.what 6 = false)]
  simp -dsimp -implicitDefEqProofs (disch := first | with_reducible assumption | omega) [go_sem]
  refine uses_any _ hi 7 (by simp) ?_
  rw [(by simp [usesB, kk] : usesB d.kind d.what 7 = false)]
  simp -dsimp -implicitDefEqProofs (disch := first | with_reducible assumption | omega) [go_sem]
  refine uses_any _ hi 3 (by simp) ?_
  rw [(by simp [usesB, kk] : usesB d.kind d.what 3 = false)]
  simp -dsimp -implicitDefEqProofs (disch := first | with_reducible assumption | omega) [go_sem]
  refine uses_any _ hi 4 (by simp) ?_
  rw [(by simp [usesB, kk] : usesB d.kind d.what 4 = true)]
  simp -dsimp -implicitDefEqProofs (disch := first | with_reducible assumption | omega) [go_sem]
  have lf := form10 (n := d.amt.toNat) (by omega)
  refine rformI_any d.amt (by omega) (by omega) fun q3 t3 m3 => ?_
  try simp only [List.cons_append, List.nil_append]
  simp -dsimp -implicitDefEqProofs (disch := first | with_reducible assumption | omega) [go_sem]
  refine append_own2 _ o2 q3 B2 (formN d.amt.toNat) g2 t3 m3 (formN_pos _) (by omega) fun o3 xb3 xc3 xp3 g3 j3 => ?_
  simp only at j3
  obtain ⟨B3, e3⟩ : ∃ B, B = B2 ++ (formN d.amt.toNat) := ⟨_, rfl⟩
  rw [← e3] at g3 ⊢
  have l3 : B3.length ≤ B2.length + 300 := by rw [e3, List.length_append]; omega
  try simp only [List.cons_append, List.nil_append]
  simp -dsimp -implicitDefEqProofs (disch := first | with_reducible assumption | omega) [go_sem]
  refine uses_any _ hi 8 (by simp) ?_
  rw [(by simp [usesB, kk] : usesB d.kind d.what 8 = false)]
  simp -dsimp -implicitDefEqProofs (disch := first | with_reducible assumption | omega) [go_sem]
  have eE : B3 = encD d := by simp [encD, paidD, wi, kk, e1, e2, e3]
  rw [eE] at g3 ⊢
  exact fin_tail (fin_tail (fin_here (hk _ g3)))
set_option maxHeartbeats 4000000 in
set_option maxRecDepth 20000 in
theorem form8_3 {d : DeedD} (bv : Value) (hd : IsDeed h bv d) (hr : rightD d = true) (kk : d.kind = 3) (hk : ∀ o, okO o (encD d).length → K (ovs o (encD d).length) (oent 5 1 o ((encD d).map (.int .u8)) L) h) : Spec Try.prog 53 [deedV d bv] L h K := by
  have ff := rightD_facts hr
  have hamt := hd.ok.a
  have hi := hd.i
  have ob := hd.i.open
  obtain ⟨x1, y1, rfl, _, hlen, _⟩ := ob
  refine x_enter Try.func53 rfl (rs := [_]) rfl rfl mixed (by kernel_rfl) rfl rfl ?_
  simp -dsimp -implicitDefEqProofs (disch := first | with_reducible assumption | omega) [go_sem]
  refine xnew fun b1 n_b1 h_b1 => ?_
  try simp only [Apart] at n_b1
  simp -dsimp -implicitDefEqProofs (disch := first | with_reducible assumption | omega) [go_sem]
  refine num8_any [_] (o := none) (bs := []) d.kind (by omega) (by omega) rfl (by simp) fun o1 B1 e1 g1 l1 => ?_
  simp only [List.length_nil] at l1
  try simp only [List.cons_append, List.nil_append]
  simp -dsimp -implicitDefEqProofs (disch := first | with_reducible assumption | omega) [go_sem]
  refine uses_any _ hi 1 (by simp) ?_
  rw [(by simp [usesB, kk] : usesB d.kind d.what 1 = true)]
  simp -dsimp -implicitDefEqProofs (disch := first | with_reducible assumption | omega) [go_sem]
  refine num8_any [_] (o := o1) (bs := B1) d.acct (by omega) (by omega) g1 (by omega) fun o2 B2 e2 g2 l2 => ?_
  try simp only [List.cons_append, List.nil_append]
  simp -dsimp -implicitDefEqProofs (disch := first | with_reducible assumption | omega) [go_sem]
  refine uses_any _ hi 2 (by simp) ?_
  rw [(by simp [usesB, kk] : usesB d.kind d.what 2 = true)]
  simp -dsimp -implicitDefEqProofs (disch := first | with_reducible assumption | omega) [go_sem]
  refine num8_any [_] (o := o2) (bs := B2) d.mem (by omega) (by omega) g2 (by omega) fun o3 B3 e3 g3 l3 => ?_
  try simp only [List.cons_append, List.nil_append]
  simp -dsimp -implicitDefEqProofs (disch := first | with_reducible assumption | omega) [go_sem]
  refine uses_any _ hi 5 (by simp) ?_
  rw [(by simp [usesB, kk] : usesB d.kind d.what 5 = false)]
  simp -dsimp -implicitDefEqProofs (disch := first | with_reducible assumption | omega) [go_sem]
  refine uses_any _ hi 6 (by simp) ?_
  rw [(by simp [usesB, kk] : usesB d.kind d.what 6 = false)]
  simp -dsimp -implicitDefEqProofs (disch := first | with_reducible assumption | omega) [go_sem]
  refine uses_any _ hi 7 (by simp) ?_
  rw [(by simp [usesB, kk] : usesB d.kind d.what 7 = false)]
  simp -dsimp -implicitDefEqProofs (disch := first | with_reducible assumption | omega) [go_sem]
  refine uses_any _ hi 3 (by simp) ?_
  rw [(by simp [usesB, kk] : usesB d.kind d.what 3 = false)]
  simp -dsimp -implicitDefEqProofs (disch := first | with_reducible assumption | omega) [go_sem]
  refine uses_any _ hi 4 (by simp) ?_
  rw [(by simp [usesB, kk] : usesB d.kind d.what 4 = true)]
  simp -dsimp -implicitDefEqProofs (disch := first | with_reducible assumption | omega) [go_sem]
  have lf := form10 (n := d.amt.toNat) (by omega)
  refine rformI_any d.amt (by omega) (by omega) fun q4 t4 m4 => ?_
  try simp only [List.cons_append, List.nil_append]
  simp -dsimp -implicitDefEqProofs (disch := first | with_reducible assumption | omega) [go_sem]
  refine append_own2 _ o3 q4 B3 (formN d.amt.toNat) g3 t4 m4 (formN_pos _) (by omega) fun o4 xb4 xc4 xp4 g4 j4 => ?_
  simp only at j4
  obtain ⟨B4, e4⟩ : ∃ B, B = B3 ++ (formN d.amt.toNat) := ⟨_, rfl⟩
  rw [← e4] at g4 ⊢
  have l4 : B4.length ≤ B3.length + 300 := by rw [e4, List.length_append]; omega
  try simp only [List.cons_append, List.nil_append]
  simp -dsimp -implicitDefEqProofs (disch := first | with_reducible assumption | omega) [go_sem]
  refine uses_any _ hi 8 (by simp) ?_
  rw [(by simp [usesB, kk] : usesB d.kind d.what 8 = false)]
  simp -dsimp -implicitDefEqProofs (disch := first | with_reducible assumption | omega) [go_sem]
  have eE : B4 = encD d := by simp [encD, paidD, wi, kk, e1, e2, e3, e4]
  rw [eE] at g4 ⊢
  exact fin_tail (fin_tail (fin_here (hk _ g4)))
set_option maxHeartbeats 4000000 in
set_option maxRecDepth 20000 in
theorem form8_4 {d : DeedD} (bv : Value) (hd : IsDeed h bv d) (hr : rightD d = true) (kk : d.kind = 4) (hk : ∀ o, okO o (encD d).length → K (ovs o (encD d).length) (oent 5 1 o ((encD d).map (.int .u8)) L) h) : Spec Try.prog 53 [deedV d bv] L h K := by
  have ff := rightD_facts hr
  have hamt := hd.ok.a
  have hi := hd.i
  have ob := hd.i.open
  obtain ⟨x1, y1, rfl, _, hlen, _⟩ := ob
  refine x_enter Try.func53 rfl (rs := [_]) rfl rfl mixed (by kernel_rfl) rfl rfl ?_
  simp -dsimp -implicitDefEqProofs (disch := first | with_reducible assumption | omega) [go_sem]
  refine xnew fun b1 n_b1 h_b1 => ?_
  try simp only [Apart] at n_b1
  simp -dsimp -implicitDefEqProofs (disch := first | with_reducible assumption | omega) [go_sem]
  refine num8_any [_] (o := none) (bs := []) d.kind (by omega) (by omega) rfl (by simp) fun o1 B1 e1 g1 l1 => ?_
  simp only [List.length_nil] at l1
  try simp only [List.cons_append, List.nil_append]
  simp -dsimp -implicitDefEqProofs (disch := first | with_reducible assumption | omega) [go_sem]
  refine uses_any _ hi 1 (by simp) ?_
  rw [(by simp [usesB, kk] : usesB d.kind d.what 1 = true)]
  simp -dsimp -implicitDefEqProofs (disch := first | with_reducible assumption | omega) [go_sem]
  refine num8_any [_] (o := o1) (bs := B1) d.acct (by omega) (by omega) g1 (by omega) fun o2 B2 e2 g2 l2 => ?_
  try simp only [List.cons_append, List.nil_append]
  simp -dsimp -implicitDefEqProofs (disch := first | with_reducible assumption | omega) [go_sem]
  refine uses_any _ hi 2 (by simp) ?_
  rw [(by simp [usesB, kk] : usesB d.kind d.what 2 = true)]
  simp -dsimp -implicitDefEqProofs (disch := first | with_reducible assumption | omega) [go_sem]
  refine num8_any [_] (o := o2) (bs := B2) d.mem (by omega) (by omega) g2 (by omega) fun o3 B3 e3 g3 l3 => ?_
  try simp only [List.cons_append, List.nil_append]
  simp -dsimp -implicitDefEqProofs (disch := first | with_reducible assumption | omega) [go_sem]
  refine uses_any _ hi 5 (by simp) ?_
  rw [(by simp [usesB, kk] : usesB d.kind d.what 5 = false)]
  simp -dsimp -implicitDefEqProofs (disch := first | with_reducible assumption | omega) [go_sem]
  refine uses_any _ hi 6 (by simp) ?_
  rw [(by simp [usesB, kk] : usesB d.kind d.what 6 = false)]
  simp -dsimp -implicitDefEqProofs (disch := first | with_reducible assumption | omega) [go_sem]
  refine uses_any _ hi 7 (by simp) ?_
  rw [(by simp [usesB, kk] : usesB d.kind d.what 7 = false)]
  simp -dsimp -implicitDefEqProofs (disch := first | with_reducible assumption | omega) [go_sem]
  refine uses_any _ hi 3 (by simp) ?_
  rw [(by simp [usesB, kk] : usesB d.kind d.what 3 = false)]
  simp -dsimp -implicitDefEqProofs (disch := first | with_reducible assumption | omega) [go_sem]
  refine uses_any _ hi 4 (by simp) ?_
  rw [(by simp [usesB, kk] : usesB d.kind d.what 4 = false)]
  simp -dsimp -implicitDefEqProofs (disch := first | with_reducible assumption | omega) [go_sem]
  refine uses_any _ hi 8 (by simp) ?_
  rw [(by simp [usesB, kk] : usesB d.kind d.what 8 = false)]
  simp -dsimp -implicitDefEqProofs (disch := first | with_reducible assumption | omega) [go_sem]
  have eE : B3 = encD d := by simp [encD, paidD, wi, kk, e1, e2, e3]
  rw [eE] at g3 ⊢
  exact fin_tail (fin_here (hk _ g3))
set_option maxHeartbeats 4000000 in
set_option maxRecDepth 20000 in
theorem form8_5 {d : DeedD} (bv : Value) (hd : IsDeed h bv d) (hr : rightD d = true) (kk : d.kind = 5) (hk : ∀ o, okO o (encD d).length → K (ovs o (encD d).length) (oent 5 1 o ((encD d).map (.int .u8)) L) h) : Spec Try.prog 53 [deedV d bv] L h K := by
  have ff := rightD_facts hr
  have hamt := hd.ok.a
  have hi := hd.i
  have ob := hd.i.open
  obtain ⟨x1, y1, rfl, _, hlen, _⟩ := ob
  refine x_enter Try.func53 rfl (rs := [_]) rfl rfl mixed (by kernel_rfl) rfl rfl ?_
  simp -dsimp -implicitDefEqProofs (disch := first | with_reducible assumption | omega) [go_sem]
  refine xnew fun b1 n_b1 h_b1 => ?_
  try simp only [Apart] at n_b1
  simp -dsimp -implicitDefEqProofs (disch := first | with_reducible assumption | omega) [go_sem]
  refine num8_any [_] (o := none) (bs := []) d.kind (by omega) (by omega) rfl (by simp) fun o1 B1 e1 g1 l1 => ?_
  simp only [List.length_nil] at l1
  try simp only [List.cons_append, List.nil_append]
  simp -dsimp -implicitDefEqProofs (disch := first | with_reducible assumption | omega) [go_sem]
  refine uses_any _ hi 1 (by simp) ?_
  rw [(by simp [usesB, kk] : usesB d.kind d.what 1 = false)]
  simp -dsimp -implicitDefEqProofs (disch := first | with_reducible assumption | omega) [go_sem]
  refine uses_any _ hi 2 (by simp) ?_
  rw [(by simp [usesB, kk] : usesB d.kind d.what 2 = false)]
  simp -dsimp -implicitDefEqProofs (disch := first | with_reducible assumption | omega) [go_sem]
  refine uses_any _ hi 5 (by simp) ?_
  rw [(by simp [usesB, kk] : usesB d.kind d.what 5 = true)]
  simp -dsimp -implicitDefEqProofs (disch := first | with_reducible assumption | omega) [go_sem]
  refine num8_any [_] (o := o1) (bs := B1) d.ep (by omega) (by omega) g1 (by omega) fun o2 B2 e2 g2 l2 => ?_
  try simp only [List.cons_append, List.nil_append]
  simp -dsimp -implicitDefEqProofs (disch := first | with_reducible assumption | omega) [go_sem]
  have lr : (rawN d.bits).length ≤ 50 := by have := form10 (n := d.bits.length) (by omega); simp [rawN]; omega
  have lp : 0 < (rawN d.bits).length := by have := formN_pos d.bits.length; simp [rawN]; omega
  refine rawd_any _ hi (by omega) fun q3 t3 m3 => ?_
  try simp only [List.cons_append, List.nil_append]
  simp -dsimp -implicitDefEqProofs (disch := first | with_reducible assumption | omega) [go_sem]
  refine append_own2 _ o2 q3 B2 (rawN d.bits) g2 t3 m3 lp (by omega) fun o3 xb3 xc3 xp3 g3 j3 => ?_
  simp only at j3
  obtain ⟨B3, e3⟩ : ∃ B, B = B2 ++ (rawN d.bits) := ⟨_, rfl⟩
  rw [← e3] at g3 ⊢
  have l3 : B3.length ≤ B2.length + 300 := by rw [e3, List.length_append]; omega
  try simp only [List.cons_append, List.nil_append]
  simp -dsimp -implicitDefEqProofs (disch := first | with_reducible assumption | omega) [go_sem]
  refine uses_any _ hi 6 (by simp) ?_
  rw [(by simp [usesB, kk] : usesB d.kind d.what 6 = false)]
  simp -dsimp -implicitDefEqProofs (disch := first | with_reducible assumption | omega) [go_sem]
  refine uses_any _ hi 7 (by simp) ?_
  rw [(by simp [usesB, kk] : usesB d.kind d.what 7 = false)]
  simp -dsimp -implicitDefEqProofs (disch := first | with_reducible assumption | omega) [go_sem]
  refine uses_any _ hi 3 (by simp) ?_
  rw [(by simp [usesB, kk] : usesB d.kind d.what 3 = false)]
  simp -dsimp -implicitDefEqProofs (disch := first | with_reducible assumption | omega) [go_sem]
  refine uses_any _ hi 4 (by simp) ?_
  rw [(by simp [usesB, kk] : usesB d.kind d.what 4 = false)]
  simp -dsimp -implicitDefEqProofs (disch := first | with_reducible assumption | omega) [go_sem]
  refine uses_any _ hi 8 (by simp) ?_
  rw [(by simp [usesB, kk] : usesB d.kind d.what 8 = false)]
  simp -dsimp -implicitDefEqProofs (disch := first | with_reducible assumption | omega) [go_sem]
  have eE : B3 = encD d := by simp [encD, paidD, wi, kk, e1, e2, e3]
  rw [eE] at g3 ⊢
  exact fin_tail (fin_tail (fin_here (hk _ g3)))
set_option maxHeartbeats 4000000 in
set_option maxRecDepth 20000 in
theorem form8_7 {d : DeedD} (bv : Value) (hd : IsDeed h bv d) (hr : rightD d = true) (kk : d.kind = 7) (hk : ∀ o, okO o (encD d).length → K (ovs o (encD d).length) (oent 5 1 o ((encD d).map (.int .u8)) L) h) : Spec Try.prog 53 [deedV d bv] L h K := by
  have ff := rightD_facts hr
  have hamt := hd.ok.a
  have hi := hd.i
  have ob := hd.i.open
  obtain ⟨x1, y1, rfl, _, hlen, _⟩ := ob
  refine x_enter Try.func53 rfl (rs := [_]) rfl rfl mixed (by kernel_rfl) rfl rfl ?_
  simp -dsimp -implicitDefEqProofs (disch := first | with_reducible assumption | omega) [go_sem]
  refine xnew fun b1 n_b1 h_b1 => ?_
  try simp only [Apart] at n_b1
  simp -dsimp -implicitDefEqProofs (disch := first | with_reducible assumption | omega) [go_sem]
  refine num8_any [_] (o := none) (bs := []) d.kind (by omega) (by omega) rfl (by simp) fun o1 B1 e1 g1 l1 => ?_
  simp only [List.length_nil] at l1
  try simp only [List.cons_append, List.nil_append]
  simp -dsimp -implicitDefEqProofs (disch := first | with_reducible assumption | omega) [go_sem]
  refine uses_any _ hi 1 (by simp) ?_
  rw [(by simp [usesB, kk] : usesB d.kind d.what 1 = true)]
  simp -dsimp -implicitDefEqProofs (disch := first | with_reducible assumption | omega) [go_sem]
  refine num8_any [_] (o := o1) (bs := B1) d.acct (by omega) (by omega) g1 (by omega) fun o2 B2 e2 g2 l2 => ?_
  try simp only [List.cons_append, List.nil_append]
  simp -dsimp -implicitDefEqProofs (disch := first | with_reducible assumption | omega) [go_sem]
  refine uses_any _ hi 2 (by simp) ?_
  rw [(by simp [usesB, kk] : usesB d.kind d.what 2 = true)]
  simp -dsimp -implicitDefEqProofs (disch := first | with_reducible assumption | omega) [go_sem]
  refine num8_any [_] (o := o2) (bs := B2) d.mem (by omega) (by omega) g2 (by omega) fun o3 B3 e3 g3 l3 => ?_
  try simp only [List.cons_append, List.nil_append]
  simp -dsimp -implicitDefEqProofs (disch := first | with_reducible assumption | omega) [go_sem]
  refine uses_any _ hi 5 (by simp) ?_
  rw [(by simp [usesB, kk] : usesB d.kind d.what 5 = false)]
  simp -dsimp -implicitDefEqProofs (disch := first | with_reducible assumption | omega) [go_sem]
  refine uses_any _ hi 6 (by simp) ?_
  rw [(by simp [usesB, kk] : usesB d.kind d.what 6 = false)]
  simp -dsimp -implicitDefEqProofs (disch := first | with_reducible assumption | omega) [go_sem]
  refine uses_any _ hi 7 (by simp) ?_
  rw [(by simp [usesB, kk] : usesB d.kind d.what 7 = false)]
  simp -dsimp -implicitDefEqProofs (disch := first | with_reducible assumption | omega) [go_sem]
  refine uses_any _ hi 3 (by simp) ?_
  rw [(by simp [usesB, kk] : usesB d.kind d.what 3 = false)]
  simp -dsimp -implicitDefEqProofs (disch := first | with_reducible assumption | omega) [go_sem]
  refine uses_any _ hi 4 (by simp) ?_
  rw [(by simp [usesB, kk] : usesB d.kind d.what 4 = false)]
  simp -dsimp -implicitDefEqProofs (disch := first | with_reducible assumption | omega) [go_sem]
  refine uses_any _ hi 8 (by simp) ?_
  rw [(by simp [usesB, kk] : usesB d.kind d.what 8 = true)]
  simp -dsimp -implicitDefEqProofs (disch := first | with_reducible assumption | omega) [go_sem]
  refine num8_any [_] (o := o3) (bs := B3) d.mot (by omega) (by omega) g3 (by omega) fun o4 B4 e4 g4 l4 => ?_
  try simp only [List.cons_append, List.nil_append]
  simp -dsimp -implicitDefEqProofs (disch := first | with_reducible assumption | omega) [go_sem]
  cases hy : d.yes with
  | false =>
    simp -dsimp -implicitDefEqProofs (disch := first | with_reducible assumption | omega) [go_sem, hy]
    refine num8_any [_] (o := o4) (bs := B4) 0 (by omega) (by omega) g4 (by omega) fun o9 B9 e9 g9 l9 => ?_
    try simp only [List.cons_append, List.nil_append]
    simp -dsimp -implicitDefEqProofs (disch := first | with_reducible assumption | omega) [go_sem]
    have eE : B9 = encD d := by simp [encD, paidD, wi, kk, hy, e9, e1, e2, e3, e4]
    rw [eE] at g9 ⊢
    exact fin_tail (fin_here (hk _ g9))
  | true =>
    simp -dsimp -implicitDefEqProofs (disch := first | with_reducible assumption | omega) [go_sem, hy]
    refine num8_any [_] (o := o4) (bs := B4) 1 (by omega) (by omega) g4 (by omega) fun o9 B9 e9 g9 l9 => ?_
    try simp only [List.cons_append, List.nil_append]
    simp -dsimp -implicitDefEqProofs (disch := first | with_reducible assumption | omega) [go_sem]
    have eE : B9 = encD d := by simp [encD, paidD, wi, kk, hy, e9, e1, e2, e3, e4]
    rw [eE] at g9 ⊢
    exact fin_tail (fin_here (hk _ g9))
set_option maxHeartbeats 4000000 in
set_option maxRecDepth 20000 in
theorem form8_6w1 {d : DeedD} (bv : Value) (hd : IsDeed h bv d) (hr : rightD d = true) (kk : d.kind = 6) (ww : d.what = 1) (hk : ∀ o, okO o (encD d).length → K (ovs o (encD d).length) (oent 5 1 o ((encD d).map (.int .u8)) L) h) : Spec Try.prog 53 [deedV d bv] L h K := by
  have ff := rightD_facts hr
  have hamt := hd.ok.a
  have hwh := rightD_what hr kk
  have hi := hd.i
  have ob := hd.i.open
  obtain ⟨x1, y1, rfl, _, hlen, _⟩ := ob
  refine x_enter Try.func53 rfl (rs := [_]) rfl rfl mixed (by kernel_rfl) rfl rfl ?_
  simp -dsimp -implicitDefEqProofs (disch := first | with_reducible assumption | omega) [go_sem]
  refine xnew fun b1 n_b1 h_b1 => ?_
  try simp only [Apart] at n_b1
  simp -dsimp -implicitDefEqProofs (disch := first | with_reducible assumption | omega) [go_sem]
  refine num8_any [_] (o := none) (bs := []) d.kind (by omega) (by omega) rfl (by simp) fun o1 B1 e1 g1 l1 => ?_
  simp only [List.length_nil] at l1
  try simp only [List.cons_append, List.nil_append]
  simp -dsimp -implicitDefEqProofs (disch := first | with_reducible assumption | omega) [go_sem]
  refine uses_any _ hi 1 (by simp) ?_
  rw [(by simp [usesB, kk, ww] : usesB d.kind d.what 1 = true)]
  simp -dsimp -implicitDefEqProofs (disch := first | with_reducible assumption | omega) [go_sem]
  refine num8_any [_] (o := o1) (bs := B1) d.acct (by omega) (by omega) g1 (by omega) fun o2 B2 e2 g2 l2 => ?_
  try simp only [List.cons_append, List.nil_append]
  simp -dsimp -implicitDefEqProofs (disch := first | with_reducible assumption | omega) [go_sem]
  refine uses_any _ hi 2 (by simp) ?_
  rw [(by simp [usesB, kk, ww] : usesB d.kind d.what 2 = false)]
  simp -dsimp -implicitDefEqProofs (disch := first | with_reducible assumption | omega) [go_sem]
  refine uses_any _ hi 5 (by simp) ?_
  rw [(by simp [usesB, kk, ww] : usesB d.kind d.what 5 = false)]
  simp -dsimp -implicitDefEqProofs (disch := first | with_reducible assumption | omega) [go_sem]
  refine uses_any _ hi 6 (by simp) ?_
  rw [(by simp [usesB, kk, ww] : usesB d.kind d.what 6 = true)]
  simp -dsimp -implicitDefEqProofs (disch := first | with_reducible assumption | omega) [go_sem]
  refine num8_any [_] (o := o2) (bs := B2) d.what (by omega) (by omega) g2 (by omega) fun o3 B3 e3 g3 l3 => ?_
  try simp only [List.cons_append, List.nil_append]
  simp -dsimp -implicitDefEqProofs (disch := first | with_reducible assumption | omega) [go_sem]
  refine uses_any _ hi 7 (by simp) ?_
  rw [(by simp [usesB, kk, ww] : usesB d.kind d.what 7 = true)]
  simp -dsimp -implicitDefEqProofs (disch := first | with_reducible assumption | omega) [go_sem]
  have lr := encP_len hd.ok.p (hwh.2.2 ww)
  have lp : 0 < (encP d.par).length := by simp only [encP, wides, flatN, List.cons_append, List.length_append]; have := formN_pos d.par.inc.toNat; omega
  refine pform_any _ hd.ok.p (hwh.2.2 ww) fun q4 t4 m4 => ?_
  try simp only [List.cons_append, List.nil_append]
  simp -dsimp -implicitDefEqProofs (disch := first | with_reducible assumption | omega) [go_sem]
  refine append_own2 _ o3 q4 B3 (encP d.par) g3 t4 m4 lp (by omega) fun o4 xb4 xc4 xp4 g4 j4 => ?_
  simp only at j4
  obtain ⟨B4, e4⟩ : ∃ B, B = B3 ++ (encP d.par) := ⟨_, rfl⟩
  rw [← e4] at g4 ⊢
  have l4 : B4.length ≤ B3.length + 300 := by rw [e4, List.length_append]; omega
  try simp only [List.cons_append, List.nil_append]
  simp -dsimp -implicitDefEqProofs (disch := first | with_reducible assumption | omega) [go_sem]
  refine uses_any _ hi 3 (by simp) ?_
  rw [(by simp [usesB, kk, ww] : usesB d.kind d.what 3 = false)]
  simp -dsimp -implicitDefEqProofs (disch := first | with_reducible assumption | omega) [go_sem]
  refine uses_any _ hi 4 (by simp) ?_
  rw [(by simp [usesB, kk, ww] : usesB d.kind d.what 4 = false)]
  simp -dsimp -implicitDefEqProofs (disch := first | with_reducible assumption | omega) [go_sem]
  refine uses_any _ hi 8 (by simp) ?_
  rw [(by simp [usesB, kk, ww] : usesB d.kind d.what 8 = false)]
  simp -dsimp -implicitDefEqProofs (disch := first | with_reducible assumption | omega) [go_sem]
  have eE : B4 = encD d := by simp [encD, paidD, wi, kk, ww, e1, e2, e3, e4]
  rw [eE] at g4 ⊢
  exact fin_tail (fin_tail (fin_here (hk _ g4)))
set_option maxHeartbeats 4000000 in
set_option maxRecDepth 20000 in
theorem form8_6w2 {d : DeedD} (bv : Value) (hd : IsDeed h bv d) (hr : rightD d = true) (kk : d.kind = 6) (ww : d.what = 2) (hk : ∀ o, okO o (encD d).length → K (ovs o (encD d).length) (oent 5 1 o ((encD d).map (.int .u8)) L) h) : Spec Try.prog 53 [deedV d bv] L h K := by
  have ff := rightD_facts hr
  have hamt := hd.ok.a
  have hwh := rightD_what hr kk
  have hi := hd.i
  have ob := hd.i.open
  obtain ⟨x1, y1, rfl, _, hlen, _⟩ := ob
  refine x_enter Try.func53 rfl (rs := [_]) rfl rfl mixed (by kernel_rfl) rfl rfl ?_
  simp -dsimp -implicitDefEqProofs (disch := first | with_reducible assumption | omega) [go_sem]
  refine xnew fun b1 n_b1 h_b1 => ?_
  try simp only [Apart] at n_b1
  simp -dsimp -implicitDefEqProofs (disch := first | with_reducible assumption | omega) [go_sem]
  refine num8_any [_] (o := none) (bs := []) d.kind (by omega) (by omega) rfl (by simp) fun o1 B1 e1 g1 l1 => ?_
  simp only [List.length_nil] at l1
  try simp only [List.cons_append, List.nil_append]
  simp -dsimp -implicitDefEqProofs (disch := first | with_reducible assumption | omega) [go_sem]
  refine uses_any _ hi 1 (by simp) ?_
  rw [(by simp [usesB, kk, ww] : usesB d.kind d.what 1 = true)]
  simp -dsimp -implicitDefEqProofs (disch := first | with_reducible assumption | omega) [go_sem]
  refine num8_any [_] (o := o1) (bs := B1) d.acct (by omega) (by omega) g1 (by omega) fun o2 B2 e2 g2 l2 => ?_
  try simp only [List.cons_append, List.nil_append]
  simp -dsimp -implicitDefEqProofs (disch := first | with_reducible assumption | omega) [go_sem]
  refine uses_any _ hi 2 (by simp) ?_
  rw [(by simp [usesB, kk, ww] : usesB d.kind d.what 2 = false)]
  simp -dsimp -implicitDefEqProofs (disch := first | with_reducible assumption | omega) [go_sem]
  refine uses_any _ hi 5 (by simp) ?_
  rw [(by simp [usesB, kk, ww] : usesB d.kind d.what 5 = false)]
  simp -dsimp -implicitDefEqProofs (disch := first | with_reducible assumption | omega) [go_sem]
  refine uses_any _ hi 6 (by simp) ?_
  rw [(by simp [usesB, kk, ww] : usesB d.kind d.what 6 = true)]
  simp -dsimp -implicitDefEqProofs (disch := first | with_reducible assumption | omega) [go_sem]
  refine num8_any [_] (o := o2) (bs := B2) d.what (by omega) (by omega) g2 (by omega) fun o3 B3 e3 g3 l3 => ?_
  try simp only [List.cons_append, List.nil_append]
  simp -dsimp -implicitDefEqProofs (disch := first | with_reducible assumption | omega) [go_sem]
  refine uses_any _ hi 7 (by simp) ?_
  rw [(by simp [usesB, kk, ww] : usesB d.kind d.what 7 = false)]
  simp -dsimp -implicitDefEqProofs (disch := first | with_reducible assumption | omega) [go_sem]
  refine uses_any _ hi 3 (by simp) ?_
  rw [(by simp [usesB, kk, ww] : usesB d.kind d.what 3 = true)]
  simp -dsimp -implicitDefEqProofs (disch := first | with_reducible assumption | omega) [go_sem]
  refine num8_any [_] (o := o3) (bs := B3) d.to (by omega) (by omega) g3 (by omega) fun o4 B4 e4 g4 l4 => ?_
  try simp only [List.cons_append, List.nil_append]
  simp -dsimp -implicitDefEqProofs (disch := first | with_reducible assumption | omega) [go_sem]
  refine uses_any _ hi 4 (by simp) ?_
  rw [(by simp [usesB, kk, ww] : usesB d.kind d.what 4 = true)]
  simp -dsimp -implicitDefEqProofs (disch := first | with_reducible assumption | omega) [go_sem]
  have lf := form10 (n := d.amt.toNat) (by omega)
  refine rformI_any d.amt (by omega) (by omega) fun q5 t5 m5 => ?_
  try simp only [List.cons_append, List.nil_append]
  simp -dsimp -implicitDefEqProofs (disch := first | with_reducible assumption | omega) [go_sem]
  refine append_own2 _ o4 q5 B4 (formN d.amt.toNat) g4 t5 m5 (formN_pos _) (by omega) fun o5 xb5 xc5 xp5 g5 j5 => ?_
  simp only at j5
  obtain ⟨B5, e5⟩ : ∃ B, B = B4 ++ (formN d.amt.toNat) := ⟨_, rfl⟩
  rw [← e5] at g5 ⊢
  have l5 : B5.length ≤ B4.length + 300 := by rw [e5, List.length_append]; omega
  try simp only [List.cons_append, List.nil_append]
  simp -dsimp -implicitDefEqProofs (disch := first | with_reducible assumption | omega) [go_sem]
  refine uses_any _ hi 8 (by simp) ?_
  rw [(by simp [usesB, kk, ww] : usesB d.kind d.what 8 = false)]
  simp -dsimp -implicitDefEqProofs (disch := first | with_reducible assumption | omega) [go_sem]
  have eE : B5 = encD d := by simp [encD, paidD, wi, kk, ww, e1, e2, e3, e4, e5]
  rw [eE] at g5 ⊢
  exact fin_tail (fin_tail (fin_here (hk _ g5)))
set_option maxHeartbeats 4000000 in
set_option maxRecDepth 20000 in
theorem form8_6w3 {d : DeedD} (bv : Value) (hd : IsDeed h bv d) (hr : rightD d = true) (kk : d.kind = 6) (w1 : ¬ d.what = 1) (w2 : ¬ d.what = 2) (hk : ∀ o, okO o (encD d).length → K (ovs o (encD d).length) (oent 5 1 o ((encD d).map (.int .u8)) L) h) : Spec Try.prog 53 [deedV d bv] L h K := by
  have ff := rightD_facts hr
  have hamt := hd.ok.a
  have hwh := rightD_what hr kk
  have hi := hd.i
  have ob := hd.i.open
  obtain ⟨x1, y1, rfl, _, hlen, _⟩ := ob
  refine x_enter Try.func53 rfl (rs := [_]) rfl rfl mixed (by kernel_rfl) rfl rfl ?_
  simp -dsimp -implicitDefEqProofs (disch := first | with_reducible assumption | omega) [go_sem]
  refine xnew fun b1 n_b1 h_b1 => ?_
  try simp only [Apart] at n_b1
  simp -dsimp -implicitDefEqProofs (disch := first | with_reducible assumption | omega) [go_sem]
  refine num8_any [_] (o := none) (bs := []) d.kind (by omega) (by omega) rfl (by simp) fun o1 B1 e1 g1 l1 => ?_
  simp only [List.length_nil] at l1
  try simp only [List.cons_append, List.nil_append]
  simp -dsimp -implicitDefEqProofs (disch := first | with_reducible assumption | omega) [go_sem]
  refine uses_any _ hi 1 (by simp) ?_
  rw [(by simp [usesB, kk, w1, w2] : usesB d.kind d.what 1 = true)]
  simp -dsimp -implicitDefEqProofs (disch := first | with_reducible assumption | omega) [go_sem]
  refine num8_any [_] (o := o1) (bs := B1) d.acct (by omega) (by omega) g1 (by omega) fun o2 B2 e2 g2 l2 => ?_
  try simp only [List.cons_append, List.nil_append]
  simp -dsimp -implicitDefEqProofs (disch := first | with_reducible assumption | omega) [go_sem]
  refine uses_any _ hi 2 (by simp) ?_
  rw [(by simp [usesB, kk, w1, w2] : usesB d.kind d.what 2 = false)]
  simp -dsimp -implicitDefEqProofs (disch := first | with_reducible assumption | omega) [go_sem]
  refine uses_any _ hi 5 (by simp) ?_
  rw [(by simp [usesB, kk, w1, w2] : usesB d.kind d.what 5 = false)]
  simp -dsimp -implicitDefEqProofs (disch := first | with_reducible assumption | omega) [go_sem]
  refine uses_any _ hi 6 (by simp) ?_
  rw [(by simp [usesB, kk, w1, w2] : usesB d.kind d.what 6 = true)]
  simp -dsimp -implicitDefEqProofs (disch := first | with_reducible assumption | omega) [go_sem]
  refine num8_any [_] (o := o2) (bs := B2) d.what (by omega) (by omega) g2 (by omega) fun o3 B3 e3 g3 l3 => ?_
  try simp only [List.cons_append, List.nil_append]
  simp -dsimp -implicitDefEqProofs (disch := first | with_reducible assumption | omega) [go_sem]
  refine uses_any _ hi 7 (by simp) ?_
  rw [(by simp [usesB, kk, w1, w2] : usesB d.kind d.what 7 = false)]
  simp -dsimp -implicitDefEqProofs (disch := first | with_reducible assumption | omega) [go_sem]
  refine uses_any _ hi 3 (by simp) ?_
  rw [(by simp [usesB, kk, w1, w2] : usesB d.kind d.what 3 = false)]
  simp -dsimp -implicitDefEqProofs (disch := first | with_reducible assumption | omega) [go_sem]
  refine uses_any _ hi 4 (by simp) ?_
  rw [(by simp [usesB, kk, w1, w2] : usesB d.kind d.what 4 = false)]
  simp -dsimp -implicitDefEqProofs (disch := first | with_reducible assumption | omega) [go_sem]
  refine uses_any _ hi 8 (by simp) ?_
  rw [(by simp [usesB, kk, w1, w2] : usesB d.kind d.what 8 = false)]
  simp -dsimp -implicitDefEqProofs (disch := first | with_reducible assumption | omega) [go_sem]
  have eE : B3 = encD d := by simp [encD, paidD, wi, kk, w1, w2, e1, e2, e3]
  rw [eE] at g3 ⊢
  exact fin_tail (fin_here (hk _ g3))
theorem form8_any {d : DeedD} (bv : Value) (hd : IsDeed h bv d) (hr : rightD d = true) (hk : ∀ o, okO o (encD d).length → K (ovs o (encD d).length) (oent 5 1 o ((encD d).map (.int .u8)) L) h) : Spec Try.prog 53 [deedV d bv] L h K := by
  have ff := rightD_facts hr
  by_cases k1 : d.kind = 1
  · exact form8_1 bv hd hr k1 hk
  by_cases k2 : d.kind = 2
  · exact form8_2 bv hd hr k2 hk
  by_cases k3 : d.kind = 3
  · exact form8_3 bv hd hr k3 hk
  by_cases k4 : d.kind = 4
  · exact form8_4 bv hd hr k4 hk
  by_cases k5 : d.kind = 5
  · exact form8_5 bv hd hr k5 hk
  by_cases k7 : d.kind = 7
  · exact form8_7 bv hd hr k7 hk
  have k6 : d.kind = 6 := by omega
  by_cases w1 : d.what = 1
  · exact form8_6w1 bv hd hr k6 w1 hk
  by_cases w2 : d.what = 2
  · exact form8_6w2 bv hd hr k6 w2 hk
  exact form8_6w3 bv hd hr k6 w1 w2 hk
end Go.X
namespace Go.X
open Go.RowKit Go.Proofs Go.Bl
variable {L : Own} {h : PH} {K : PK}
set_option maxHeartbeats 4000000 in
set_option maxRecDepth 20000 in
theorem deedencodes_any (v : Value) (hq : ∃ q : Value × DeedD, v = deedV q.2 q.1 ∧ IsDeed h q.1 q.2) (hk : ∀ h', PH.le h h' → K (.bool true) L h') : Spec Try.prog 9 [v] L h K := by
  obtain ⟨⟨bv, d⟩, rfl, hd0⟩ := hq
  have hd : IsDeed h bv d := hd0
  clear hd0
  change Spec Try.prog 9 [deedV d bv] L h K
  have ob := hd.i.open
  obtain ⟨x1, y1, rfl, _⟩ := ob
  have hbb := byte_of hd.i
  refine x_enter Try.func9 rfl (rs := [_]) rfl rfl mixed (by kernel_rfl) rfl rfl ?_
  simp -dsimp -implicitDefEqProofs (disch := first | with_reducible assumption | omega) [go_sem]
  refine xnew fun b1 n_b1 h_b1 => ?_
  try simp only [Apart] at n_b1
  simp -dsimp -implicitDefEqProofs (disch := first | with_reducible assumption | omega) [go_sem]
  refine Spec.ap (awake8_any fun h2 le2 ap => ?_)
  obtain ⟨q1, _⟩ := ap
  simp -dsimp -implicitDefEqProofs (disch := first | with_reducible assumption | omega) [go_sem]
  by_cases c1 : (d.bits.length : Int) > 200
  · simp -dsimp -implicitDefEqProofs (disch := first | with_reducible assumption | omega) [go_sem]
    exact fin_tail (fin_here (hk h2 le2))
  simp -dsimp -implicitDefEqProofs (disch := first | with_reducible assumption | omega) [go_sem]
  refine Spec.ap (denc_any _ (hd.up le2) fun h3 r le3 hr3 ap => ?_)
  obtain ⟨q3, _⟩ := ap
  cases hr : rightD d with
  | false =>
    rw [hr] at hr3
    simp only [Bool.false_eq_true, if_false] at hr3 ⊢
    subst hr3
    simp -dsimp -implicitDefEqProofs (disch := first | with_reducible assumption | omega) [go_sem]
    refine xnew fun bw n_bw h_bw => ?_
    try simp only [Apart] at n_bw
    simp -dsimp -implicitDefEqProofs (disch := first | with_reducible assumption | omega) [go_sem]
    refine x_enterA Try.func48 rfl (rs := [_]) rfl rfl mixed (by kernel_rfl) rfl rfl fun ap nd => ?_
    obtain ⟨ap1, ap2, _⟩ := ap
    try simp only [Nd, Apart] at nd
    simp -dsimp -implicitDefEqProofs (disch := first | with_reducible assumption | omega) [go_sem]
    refine xnew fun b3 n_b3 h_b3 => ?_
    try simp only [Apart] at n_b3
    simp -dsimp -implicitDefEqProofs (disch := first | with_reducible assumption | omega) [go_sem]
    refine Spec.apn (dright_any _ (hd.up (le2.trans le3)) fun h4 le4 ap nd => ?_)
    rw [hr]
    simp -dsimp -implicitDefEqProofs (disch := first | with_reducible assumption | omega) [go_sem]
    refine fin_tail (fin_here ?_)
    try simp -dsimp -implicitDefEqProofs (disch := first | with_reducible assumption | omega) [go_sem]
    refine Spec.ap (wout_any (o := none) (s := ([], 0)) [_] (by simp) rfl (by simp) fun h5 r le5 hr5 _ ap5 => ?_)
    try simp only [wO, List.cons_append, List.nil_append, Ap] at ap5
    obtain ⟨u1, u2, _⟩ := ap5
    have hr5 := hr5 rfl
    have or5 := hr5.open
    obtain ⟨x5, y5, rfl, _⟩ := or5
    try simp only [wO, rO, dO, List.cons_append, List.nil_append]
    simp -dsimp -implicitDefEqProofs (disch := first | with_reducible assumption | omega) [go_sem]
    have hd5 := hd.up (((le2.trans le3).trans le4).trans le5)
    refine plain8_any (d := d) _ hd5.i ?_
    simp -dsimp -implicitDefEqProofs (disch := first | with_reducible assumption | omega) [go_sem]
    refine Spec.ap (right8_any _ hd5 fun h6 le6 ap6 => ?_)
    try simp only [wO, List.cons_append, List.nil_append, Ap] at ap6
    obtain ⟨u3, u4, _⟩ := ap6
    rw [hr]
    simp -dsimp -implicitDefEqProofs (disch := first | with_reducible assumption | omega) [go_sem]
    refine Spec.ap (dright_any _ (hd5.up le6) fun h7 le7 ap7 => ?_)
    try simp only [wO, List.cons_append, List.nil_append, Ap] at ap7
    obtain ⟨u5, u6, _⟩ := ap7
    rw [hr]
    simp -dsimp -implicitDefEqProofs (disch := first | with_reducible assumption | omega) [go_sem]
    exact fin_tail (fin_tail (fin_here (hk h7 (((((le2.trans le3).trans le4).trans le5).trans le6).trans le7))))
  | true =>
    rw [hr] at hr3
    simp only [if_true] at hr3 ⊢
    have hl := encD_len hd.ok hr
    have hr3' := hr3
    have or3 := hr3.open
    obtain ⟨x2, y2, rfl, _⟩ := or3
    simp -dsimp -implicitDefEqProofs (disch := first | with_reducible assumption | omega) [go_sem]
    refine xnew fun bw n_bw h_bw => ?_
    try simp only [Apart] at n_bw
    simp -dsimp -implicitDefEqProofs (disch := first | with_reducible assumption | omega) [go_sem]
    refine Spec.apn (dwrite_any (o := none) (bs := []) [_] _ (hd.up (le2.trans le3)) hr rfl (by simp) fun h4 o4 le4 k4 ap nd => ?_)
    simp only [List.nil_append] at k4 ⊢
    simp only [wO, List.cons_append, List.nil_append, Nd, Apart] at nd
    obtain ⟨⟨ne1, _⟩, _⟩ := nd
    try simp only [wO, rO, dO, List.cons_append, List.nil_append]
    simp -dsimp -implicitDefEqProofs (disch := first | with_reducible assumption | omega) [go_sem]
    refine Spec.ap (wout_any (o := o4) (s := (encD d, 0)) [_] (encD_byte hbb) k4 (by simp only; omega) fun h5 r le5 hr5 _ ap5 => ?_)
    try simp only [wO, List.cons_append, List.nil_append, Ap] at ap5
    obtain ⟨u1, u2, _⟩ := ap5
    have hr5 := hr5 rfl
    have hr5' := hr5
    have or5 := hr5.open
    obtain ⟨x5, y5, rfl, _⟩ := or5
    try simp only [wO, rO, dO, List.cons_append, List.nil_append]
    simp -dsimp -implicitDefEqProofs (disch := first | with_reducible assumption | omega) [go_sem]
    have hd5 := hd.up (((le2.trans le3).trans le4).trans le5)
    refine plain8_any (d := d) _ hd5.i ?_
    simp -dsimp -implicitDefEqProofs (disch := first | with_reducible assumption | omega) [go_sem]
    refine Spec.ap (right8_any _ hd5 fun h6 le6 ap6 => ?_)
    try simp only [wO, List.cons_append, List.nil_append, Ap] at ap6
    obtain ⟨u3, u4, _⟩ := ap6
    rw [hr]
    simp -dsimp -implicitDefEqProofs (disch := first | with_reducible assumption | omega) [go_sem]
    refine Spec.ap (dright_any _ (hd5.up le6) fun h7 le7 ap7 => ?_)
    try simp only [wO, List.cons_append, List.nil_append, Ap] at ap7
    obtain ⟨u5, u6, _⟩ := ap7
    rw [hr]
    simp -dsimp -implicitDefEqProofs (disch := first | with_reducible assumption | omega) [go_sem]
    have hd7 := hd5.up (le6.trans le7)
    refine plain8_any (d := d) _ hd7.i ?_
    simp -dsimp -implicitDefEqProofs (disch := first | with_reducible assumption | omega) [go_sem]
    refine form8_any _ hd7 hr fun o8 k8 => ?_
    simp -dsimp -implicitDefEqProofs (disch := first | with_reducible assumption | omega) [go_sem]
    refine call_pub_o (n := (encD d).length) [] k8 (by simp) (by omega) (fun h8 le8 sl => ?_) ⟨Try.f42, Try.func42, by decide +kernel, rfl⟩
    have hm : Ints h8 .u8 (ovs o8 (encD d).length) (encD d) := by
      refine ⟨by simpa using sl, ?_⟩
      exact hr3'.2
    refine same8 _ _ (hr3'.up ((le4.trans le5).trans ((le6.trans le7).trans le8))) hm ?_
    rw [decide_eq_true rfl]
    try simp only [List.cons_append, List.nil_append]
    simp -dsimp -implicitDefEqProofs (disch := first | with_reducible assumption | omega) [go_sem]
    refine same8 _ _ (hr5'.up ((le6.trans le7).trans le8)) (hr3'.up ((le4.trans le5).trans ((le6.trans le7).trans le8))) ?_
    rw [decide_eq_true rfl]
    simp -dsimp -implicitDefEqProofs (disch := first | with_reducible assumption | omega) [go_sem]
    exact fin_tail (fin_tail (fin_oent (fin_here (hk h8 (((le2.trans le3).trans (le4.trans le5)).trans ((le6.trans le7).trans le8))))))
end Go.X

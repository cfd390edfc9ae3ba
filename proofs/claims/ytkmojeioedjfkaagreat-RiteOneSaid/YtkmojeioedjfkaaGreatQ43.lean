/- Part of the proof of a statement about the given program: lemmas and contracts. Conditions: as each says. -/
import Derived.Test.YtkmojeioedjfkaaGreatQ33
import Derived.Test.YtkmojeioedjfkaaGreatQ37
import Derived.Test.YtkmojeioedjfkaaGreatQ39
/- The contract of bullionref08.Form. Conditions: the value reads as a right deed. -/
set_option linter.unusedVariables false
set_option linter.unusedSimpArgs false
namespace Go.X
open Go.RowKit Go.Proofs Go.Bl
variable {L : Own} {h : PH} {K : PK}
set_option maxHeartbeats 4000000 in
set_option maxRecDepth 20000 in
theorem form8_1 {d : DeedD} (bv : Value) (hd : IsDeed h bv d) (hr : rightD d = true) (kk : d.kind = 1) (hk : ∀ o, okO o (encD d).length → K (ovs o (encD d).length) (oent 5 1 o ((encD d).map (.int .u8)) L) h) : Spec Tryz.prog 155 [deedV d bv] L h K := by
  have ff := rightD_facts hr
  have hamt := hd.ok.a
  have hi := hd.i
  have ob := hd.i.open
  obtain ⟨x1, y1, rfl, _, hlen, _⟩ := ob
  refine x_enter Tryz.func155 rfl (rs := [_]) rfl rfl mixed (by kernel_rfl) rfl rfl ?_
  simp -dsimp -implicitDefEqProofs (disch := first | with_reducible assumption | omega) [go_sem]
  refine xnew fun b1 n_b1 h_b1 => ?_
  try simp only [Apart] at n_b1
  simp -dsimp -implicitDefEqProofs (disch := first | with_reducible assumption | omega) [go_sem]
  refine num8_any [_] (o := none) (bs := []) d.kind (by omega) (by omega) rfl (by simp) fun o1 B1 e1 g1 l1 => ?_
  simp only [List.length_nil] at l1
  try simp only [List.cons_append, List.nil_append]
  simp -dsimp -implicitDefEqProofs (disch := first | with_reducible assumption | omega) [go_sem]
  refine uses_any _ hi 1 (by simp) ?_
  rw [(by simp [usesB, kk] : usesB d.kind d.what 1 = true)]
  simp -dsimp -implicitDefEqProofs (disch := first | with_reducible assumption | omega) [go_sem]
  refine num8_any [_] (o := o1) (bs := B1) d.acct (by omega) (by omega) g1 (by omega) fun o2 B2 e2 g2 l2 => ?_
  try simp only [List.cons_append, List.nil_append]
  simp -dsimp -implicitDefEqProofs (disch := first | with_reducible assumption | omega) [go_sem]
  refine uses_any _ hi 2 (by simp) ?_
  rw [(by simp [usesB, kk] : usesB d.kind d.what 2 = false)]
  simp -dsimp -implicitDefEqProofs (disch := first | with_reducible assumption | omega) [go_sem]
  refine uses_any _ hi 5 (by simp) ?_
  rw [(by simp [usesB, kk] : usesB d.kind d.what 5 = false)]
  simp -dsimp -implicitDefEqProofs (disch := first | with_reducible assumption | omega) [go_sem]
  refine uses_any _ hi 6 (by simp) ?_
  rw [(by simp [usesB, kk] : usesB d.kind d.what 6 = false)]
  simp -dsimp -implicitDefEqProofs (disch := first | with_reducible assumption | omega) [go_sem]
  refine uses_any _ hi 7 (by simp) ?_
  rw [(by simp [usesB, kk] : usesB d.kind d.what 7 = false)]
  simp -dsimp -implicitDefEqProofs (disch := first | with_reducible assumption | omega) [go_sem]
  refine uses_any _ hi 3 (by simp) ?_
  rw [(by simp [usesB, kk] : usesB d.kind d.what 3 = true)]
  simp -dsimp -implicitDefEqProofs (disch := first | with_reducible assumption | omega) [go_sem]
  refine num8_any [_] (o := o2) (bs := B2) d.to (by omega) (by omega) g2 (by omega) fun o3 B3 e3 g3 l3 => ?_
  try simp only [List.cons_append, List.nil_append]
  simp -dsimp -implicitDefEqProofs (disch := first | with_reducible assumption | omega) [go_sem]
  refine uses_any _ hi 4 (by simp) ?_
  rw [(by simp [usesB, kk] : usesB d.kind d.what 4 = true)]
  simp -dsimp -implicitDefEqProofs (disch := first | with_reducible assumption | omega) [go_sem]
  have lf := form10 (n := d.amt.toNat) (by omega)
  refine rformI_any d.amt (by omega) (by omega) fun q4 t4 m4 => ?_
  try simp only [List.cons_append, List.nil_append]
  simp -dsimp -implicitDefEqProofs (disch := first | with_reducible assumption | omega) [go_sem]
  refine append_own2 _ o3 q4 B3 (formN d.amt.toNat) g3 t4 m4 (formN_pos _) (by omega) fun o4 xb4 xc4 xp4 g4 j4 => ?_
  simp only at j4
  obtain ⟨B4, e4⟩ : ∃ B, B = B3 ++ (formN d.amt.toNat) := ⟨_, rfl⟩
  rw [← e4] at g4 ⊢
  have l4 : B4.length ≤ B3.length + 300 := by rw [e4, List.length_append]; omega
  try simp only [List.cons_append, List.nil_append]
  simp -dsimp -implicitDefEqProofs (disch := first | with_reducible assumption | omega) [go_sem]
  refine uses_any _ hi 8 (by simp) ?_
  rw [(by simp [usesB, kk] : usesB d.kind d.what 8 = false)]
  simp -dsimp -implicitDefEqProofs (disch := first | with_reducible assumption | omega) [go_sem]
  have eE : B4 = encD d := by simp [encD, paidD, wi, kk, e1, e2, e3, e4]
  rw [eE] at g4 ⊢
  exact fin_tail (fin_tail (fin_here (hk _ g4)))
set_option maxHeartbeats 4000000 in
set_option maxRecDepth 20000 in
theorem form8_2 {d : DeedD} (bv : Value) (hd : IsDeed h bv d) (hr : rightD d = true) (kk : d.kind = 2) (hk : ∀ o, okO o (encD d).length → K (ovs o (encD d).length) (oent 5 1 o ((encD d).map (.int .u8)) L) h) : Spec Tryz.prog 155 [deedV d bv] L h K := by
  have ff := rightD_facts hr
  have hamt := hd.ok.a
  have hi := hd.i
  have ob := hd.i.open
  obtain ⟨x1, y1, rfl, _, hlen, _⟩ := ob
  refine x_enter Tryz.func155 rfl (rs := [_]) rfl rfl mixed (by kernel_rfl) rfl rfl ?_
  simp -dsimp -implicitDefEqProofs (disch := first | with_reducible assumption | omega) [go_sem]
  refine xnew fun b1 n_b1 h_b1 => ?_
  try simp only [Apart] at n_b1
  simp -dsimp -implicitDefEqProofs (disch := first | with_reducible assumption | omega) [go_sem]
  refine num8_any [_] (o := none) (bs := []) d.kind (by omega) (by omega) rfl (by simp) fun o1 B1 e1 g1 l1 => ?_
  simp only [List.length_nil] at l1
  try simp only [List.cons_append, List.nil_append]
  simp -dsimp -implicitDefEqProofs (disch := first | with_reducible assumption | omega) [go_sem]
  refine uses_any _ hi 1 (by simp) ?_
  rw [(by simp [usesB, kk] : usesB d.kind d.what 1 = true)]
  simp -dsimp -implicitDefEqProofs (disch := first | with_reducible assumption | omega) [go_sem]
  refine num8_any [_] (o := o1) (bs := B1) d.acct (by omega) (by omega) g1 (by omega) fun o2 B2 e2 g2 l2 => ?_
  try simp only [List.cons_append, List.nil_append]
  simp -dsimp -implicitDefEqProofs (disch := first | with_reducible assumption | omega) [go_sem]
  refine uses_any _ hi 2 (by simp) ?_
  rw [(by simp [usesB, kk] : usesB d.kind d.what 2 = false)]
  simp -dsimp -implicitDefEqProofs (disch := first | with_reducible assumption | omega) [go_sem]
  refine uses_any _ hi 5 (by simp) ?_
  rw [(by simp [usesB, kk] : usesB d.kind d.what 5 = false)]
  simp -dsimp -implicitDefEqProofs (disch := first | with_reducible assumption | omega) [go_sem]
  refine uses_any _ hi 6 (by simp) ?_
  rw [(by simp [usesB, kk] : usesB d.kind d.what 6 = false)]
  simp -dsimp -implicitDefEqProofs (disch := first | with_reducible assumption | omega) [go_sem]
  refine uses_any _ hi 7 (by simp) ?_
  rw [(by simp [usesB, kk] : usesB d.kind d.what 7 = false)]
  simp -dsimp -implicitDefEqProofs (disch := first | with_reducible assumption | omega) [go_sem]
  refine uses_any _ hi 3 (by simp) ?_
  rw [(by simp [usesB, kk] : usesB d.kind d.what 3 = false)]
  simp -dsimp -implicitDefEqProofs (disch := first | with_reducible assumption | omega) [go_sem]
  refine uses_any _ hi 4 (by simp) ?_
  rw [(by simp [usesB, kk] : usesB d.kind d.what 4 = true)]
  simp -dsimp -implicitDefEqProofs (disch := first | with_reducible assumption | omega) [go_sem]
  have lf := form10 (n := d.amt.toNat) (by omega)
  refine rformI_any d.amt (by omega) (by omega) fun q3 t3 m3 => ?_
  try simp only [List.cons_append, List.nil_append]
  simp -dsimp -implicitDefEqProofs (disch := first | with_reducible assumption | omega) [go_sem]
  refine append_own2 _ o2 q3 B2 (formN d.amt.toNat) g2 t3 m3 (formN_pos _) (by omega) fun o3 xb3 xc3 xp3 g3 j3 => ?_
  simp only at j3
  obtain ⟨B3, e3⟩ : ∃ B, B = B2 ++ (formN d.amt.toNat) := ⟨_, rfl⟩
  rw [← e3] at g3 ⊢
  have l3 : B3.length ≤ B2.length + 300 := by rw [e3, List.length_append]; omega
  try simp only [List.cons_append, List.nil_append]
  simp -dsimp -implicitDefEqProofs (disch := first | with_reducible assumption | omega) [go_sem]
  refine uses_any _ hi 8 (by simp) ?_
  rw [(by simp [usesB, kk] : usesB d.kind d.what 8 = false)]
  simp -dsimp -implicitDefEqProofs (disch := first | with_reducible assumption | omega) [go_sem]
  have eE : B3 = encD d := by simp [encD, paidD, wi, kk, e1, e2, e3]
  rw [eE] at g3 ⊢
  exact fin_tail (fin_tail (fin_here (hk _ g3)))
set_option maxHeartbeats 4000000 in
set_option maxRecDepth 20000 in
theorem form8_3 {d : DeedD} (bv : Value) (hd : IsDeed h bv d) (hr : rightD d = true) (kk : d.kind = 3) (hk : ∀ o, okO o (encD d).length → K (ovs o (encD d).length) (oent 5 1 o ((encD d).map (.int .u8)) L) h) : Spec Tryz.prog 155 [deedV d bv] L h K := by
  have ff := rightD_facts hr
  have hamt := hd.ok.a
  have hi := hd.i
  have ob := hd.i.open
  obtain ⟨x1, y1, rfl, _, hlen, _⟩ := ob
  refine x_enter Tryz.func155 rfl (rs := [_]) rfl rfl mixed (by kernel_rfl) rfl rfl ?_
  simp -dsimp -implicitDefEqProofs (disch := first | with_reducible assumption | omega) [go_sem]
  refine xnew fun b1 n_b1 h_b1 => ?_
  try simp only [Apart] at n_b1
  simp -dsimp -implicitDefEqProofs (disch := first | with_reducible assumption | omega) [go_sem]
  refine num8_any [_] (o := none) (bs := []) d.kind (by omega) (by omega) rfl (by simp) fun o1 B1 e1 g1 l1 => ?_
  simp only [List.length_nil] at l1
  try simp only [List.cons_append, List.nil_append]
  simp -dsimp -implicitDefEqProofs (disch := first | with_reducible assumption | omega) [go_sem]
  refine uses_any _ hi 1 (by simp) ?_
  rw [(by simp [usesB, kk] : usesB d.kind d.what 1 = true)]
  simp -dsimp -implicitDefEqProofs (disch := first | with_reducible assumption | omega) [go_sem]
  refine num8_any [_] (o := o1) (bs := B1) d.acct (by omega) (by omega) g1 (by omega) fun o2 B2 e2 g2 l2 => ?_
  try simp only [List.cons_append, List.nil_append]
  simp -dsimp -implicitDefEqProofs (disch := first | with_reducible assumption | omega) [go_sem]
  refine uses_any _ hi 2 (by simp) ?_
  rw [(by simp [usesB, kk] : usesB d.kind d.what 2 = true)]
  simp -dsimp -implicitDefEqProofs (disch := first | with_reducible assumption | omega) [go_sem]
  refine num8_any [_] (o := o2) (bs := B2) d.mem (by omega) (by omega) g2 (by omega) fun o3 B3 e3 g3 l3 => ?_
  try simp only [List.cons_append, List.nil_append]
  simp -dsimp -implicitDefEqProofs (disch := first | with_reducible assumption | omega) [go_sem]
  refine uses_any _ hi 5 (by simp) ?_
  rw [(by simp [usesB, kk] : usesB d.kind d.what 5 = false)]
  simp -dsimp -implicitDefEqProofs (disch := first | with_reducible assumption | omega) [go_sem]
  refine uses_any _ hi 6 (by simp) ?_
  rw [(by simp [usesB, kk] : usesB d.kind d.what 6 = false)]
  simp -dsimp -implicitDefEqProofs (disch := first | with_reducible assumption | omega) [go_sem]
  refine uses_any _ hi 7 (by simp) ?_
  rw [(by simp [usesB, kk] : usesB d.kind d.what 7 = false)]
  simp -dsimp -implicitDefEqProofs (disch := first | with_reducible assumption | omega) [go_sem]
  refine uses_any _ hi 3 (by simp) ?_
  rw [(by simp [usesB, kk] : usesB d.kind d.what 3 = false)]
  simp -dsimp -implicitDefEqProofs (disch := first | with_reducible assumption | omega) [go_sem]
  refine uses_any _ hi 4 (by simp) ?_
  rw [(by simp [usesB, kk] : usesB d.kind d.what 4 = true)]
  simp -dsimp -implicitDefEqProofs (disch := first | with_reducible assumption | omega) [go_sem]
  have lf := form10 (n := d.amt.toNat) (by omega)
  refine rformI_any d.amt (by omega) (by omega) fun q4 t4 m4 => ?_
  try simp only [List.cons_append, List.nil_append]
  simp -dsimp -implicitDefEqProofs (disch := first | with_reducible assumption | omega) [go_sem]
  refine append_own2 _ o3 q4 B3 (formN d.amt.toNat) g3 t4 m4 (formN_pos _) (by omega) fun o4 xb4 xc4 xp4 g4 j4 => ?_
  simp only at j4
  obtain ⟨B4, e4⟩ : ∃ B, B = B3 ++ (formN d.amt.toNat) := ⟨_, rfl⟩
  rw [← e4] at g4 ⊢
  have l4 : B4.length ≤ B3.length + 300 := by rw [e4, List.length_append]; omega
  try simp only [List.cons_append, List.nil_append]
  simp -dsimp -implicitDefEqProofs (disch := first | with_reducible assumption | omega) [go_sem]
  refine uses_any _ hi 8 (by simp) ?_
  rw [(by simp [usesB, kk] : usesB d.kind d.what 8 = false)]
  simp -dsimp -implicitDefEqProofs (disch := first | with_reducible assumption | omega) [go_sem]
  have eE : B4 = encD d := by simp [encD, paidD, wi, kk, e1, e2, e3, e4]
  rw [eE] at g4 ⊢
  exact fin_tail (fin_tail (fin_here (hk _ g4)))
set_option maxHeartbeats 4000000 in
set_option maxRecDepth 20000 in
theorem form8_4 {d : DeedD} (bv : Value) (hd : IsDeed h bv d) (hr : rightD d = true) (kk : d.kind = 4) (hk : ∀ o, okO o (encD d).length → K (ovs o (encD d).length) (oent 5 1 o ((encD d).map (.int .u8)) L) h) : Spec Tryz.prog 155 [deedV d bv] L h K := by
  have ff := rightD_facts hr
  have hamt := hd.ok.a
  have hi := hd.i
  have ob := hd.i.open
  obtain ⟨x1, y1, rfl, _, hlen, _⟩ := ob
  refine x_enter Tryz.func155 rfl (rs := [_]) rfl rfl mixed (by kernel_rfl) rfl rfl ?_
  simp -dsimp -implicitDefEqProofs (disch := first | with_reducible assumption | omega) [go_sem]
  refine xnew fun b1 n_b1 h_b1 => ?_
  try simp only [Apart] at n_b1
  simp -dsimp -implicitDefEqProofs (disch := first | with_reducible assumption | omega) [go_sem]
  refine num8_any [_] (o := none) (bs := []) d.kind (by omega) (by omega) rfl (by simp) fun o1 B1 e1 g1 l1 => ?_
  simp only [List.length_nil] at l1
  try simp only [List.cons_append, List.nil_append]
  simp -dsimp -implicitDefEqProofs (disch := first | with_reducible assumption | omega) [go_sem]
  refine uses_any _ hi 1 (by simp) ?_
  rw [(by simp [usesB, kk] : usesB d.kind d.what 1 = true)]
  simp -dsimp -implicitDefEqProofs (disch := first | with_reducible assumption | omega) [go_sem]
  refine num8_any [_] (o := o1) (bs := B1) d.acct (by omega) (by omega) g1 (by omega) fun o2 B2 e2 g2 l2 => ?_
  try simp only [List.cons_append, List.nil_append]
  simp -dsimp -implicitDefEqProofs (disch := first | with_reducible assumption | omega) [go_sem]
  refine uses_any _ hi 2 (by simp) ?_
  rw [(by simp [usesB, kk] : usesB d.kind d.what 2 = true)]
  simp -dsimp -implicitDefEqProofs (disch := first | with_reducible assumption | omega) [go_sem]
  refine num8_any [_] (o := o2) (bs := B2) d.mem (by omega) (by omega) g2 (by omega) fun o3 B3 e3 g3 l3 => ?_
  try simp only [List.cons_append, List.nil_append]
  simp -dsimp -implicitDefEqProofs (disch := first | with_reducible assumption | omega) [go_sem]
  refine uses_any _ hi 5 (by simp) ?_
  rw [(by simp [usesB, kk] : usesB d.kind d.what 5 = false)]
  simp -dsimp -implicitDefEqProofs (disch := first | with_reducible assumption | omega) [go_sem]
  refine uses_any _ hi 6 (by simp) ?_
  rw [(by simp [usesB, kk] : usesB d.kind d.what 6 = false)]
  simp -dsimp -implicitDefEqProofs (disch := first | with_reducible assumption | omega) [go_sem]
  refine uses_any _ hi 7 (by simp) ?_
  rw [(by simp [usesB, kk] : usesB d.kind d.what 7 = false)]
  simp -dsimp -implicitDefEqProofs (disch := first | with_reducible assumption | omega) [go_sem]
  refine uses_any _ hi 3 (by simp) ?_
  rw [(by simp [usesB, kk] : usesB d.kind d.what 3 = false)]
  simp -dsimp -implicitDefEqProofs (disch := first | with_reducible assumption | omega) [go_sem]
  refine uses_any _ hi 4 (by simp) ?_
  rw [(by simp [usesB, kk] : usesB d.kind d.what 4 = false)]
  simp -dsimp -implicitDefEqProofs (disch := first | with_reducible assumption | omega) [go_sem]
  refine uses_any _ hi 8 (by simp) ?_
  rw [(by simp [usesB, kk] : usesB d.kind d.what 8 = false)]
  simp -dsimp -implicitDefEqProofs (disch := first | with_reducible assumption | omega) [go_sem]
  have eE : B3 = encD d := by simp [encD, paidD, wi, kk, e1, e2, e3]
  rw [eE] at g3 ⊢
  exact fin_tail (fin_here (hk _ g3))
set_option maxHeartbeats 4000000 in
set_option maxRecDepth 20000 in
theorem form8_5 {d : DeedD} (bv : Value) (hd : IsDeed h bv d) (hr : rightD d = true) (kk : d.kind = 5) (hk : ∀ o, okO o (encD d).length → K (ovs o (encD d).length) (oent 5 1 o ((encD d).map (.int .u8)) L) h) : Spec Tryz.prog 155 [deedV d bv] L h K := by
  have ff := rightD_facts hr
  have hamt := hd.ok.a
  have hi := hd.i
  have ob := hd.i.open
  obtain ⟨x1, y1, rfl, _, hlen, _⟩ := ob
  refine x_enter Tryz.func155 rfl (rs := [_]) rfl rfl mixed (by kernel_rfl) rfl rfl ?_
  simp -dsimp -implicitDefEqProofs (disch := first | with_reducible assumption | omega) [go_sem]
  refine xnew fun b1 n_b1 h_b1 => ?_
  try simp only [Apart] at n_b1
  simp -dsimp -implicitDefEqProofs (disch := first | with_reducible assumption | omega) [go_sem]
  refine num8_any [_] (o := none) (bs := []) d.kind (by omega) (by omega) rfl (by simp) fun o1 B1 e1 g1 l1 => ?_
  simp only [List.length_nil] at l1
  try simp only [List.cons_append, List.nil_append]
  simp -dsimp -implicitDefEqProofs (disch := first | with_reducible assumption | omega) [go_sem]
  refine uses_any _ hi 1 (by simp) ?_
  rw [(by simp [usesB, kk] : usesB d.kind d.what 1 = false)]
  simp -dsimp -implicitDefEqProofs (disch := first | with_reducible assumption | omega) [go_sem]
  refine uses_any _ hi 2 (by simp) ?_
  rw [(by simp [usesB, kk] : usesB d.kind d.what 2 = false)]
  simp -dsimp -implicitDefEqProofs (disch := first | with_reducible assumption | omega) [go_sem]
  refine uses_any _ hi 5 (by simp) ?_
  rw [(by simp [usesB, kk] : usesB d.kind d.what 5 = true)]
  simp -dsimp -implicitDefEqProofs (disch := first | with_reducible assumption | omega) [go_sem]
  refine num8_any [_] (o := o1) (bs := B1) d.ep (by omega) (by omega) g1 (by omega) fun o2 B2 e2 g2 l2 => ?_
  try simp only [List.cons_append, List.nil_append]
  simp -dsimp -implicitDefEqProofs (disch := first | with_reducible assumption | omega) [go_sem]
  have lr : (rawN d.bits).length ≤ 50 := by have := form10 (n := d.bits.length) (by omega); simp [rawN]; omega
  have lp : 0 < (rawN d.bits).length := by have := formN_pos d.bits.length; simp [rawN]; omega
  refine rawd_any _ hi (by omega) fun q3 t3 m3 => ?_
  try simp only [List.cons_append, List.nil_append]
  simp -dsimp -implicitDefEqProofs (disch := first | with_reducible assumption | omega) [go_sem]
  refine append_own2 _ o2 q3 B2 (rawN d.bits) g2 t3 m3 lp (by omega) fun o3 xb3 xc3 xp3 g3 j3 => ?_
  simp only at j3
  obtain ⟨B3, e3⟩ : ∃ B, B = B2 ++ (rawN d.bits) := ⟨_, rfl⟩
  rw [← e3] at g3 ⊢
  have l3 : B3.length ≤ B2.length + 300 := by rw [e3, List.length_append]; omega
  try simp only [List.cons_append, List.nil_append]
  simp -dsimp -implicitDefEqProofs (disch := first | with_reducible assumption | omega) [go_sem]
  refine uses_any _ hi 6 (by simp) ?_
  rw [(by simp [usesB, kk] : usesB d.kind d.what 6 = false)]
  simp -dsimp -implicitDefEqProofs (disch := first | with_reducible assumption | omega) [go_sem]
  refine uses_any _ hi 7 (by simp) ?_
  rw [(by simp [usesB, kk] : usesB d.kind d.what 7 = false)]
  simp -dsimp -implicitDefEqProofs (disch := first | with_reducible assumption | omega) [go_sem]
  refine uses_any _ hi 3 (by simp) ?_
  rw [(by simp [usesB, kk] : usesB d.kind d.what 3 = false)]
  simp -dsimp -implicitDefEqProofs (disch := first | with_reducible assumption | omega) [go_sem]
  refine uses_any _ hi 4 (by simp) ?_
  rw [(by simp [usesB, kk] : usesB d.kind d.what 4 = false)]
  simp -dsimp -implicitDefEqProofs (disch := first | with_reducible assumption | omega) [go_sem]
  refine uses_any _ hi 8 (by simp) ?_
  rw [(by simp [usesB, kk] : usesB d.kind d.what 8 = false)]
  simp -dsimp -implicitDefEqProofs (disch := first | with_reducible assumption | omega) [go_sem]
  have eE : B3 = encD d := by simp [encD, paidD, wi, kk, e1, e2, e3]
  rw [eE] at g3 ⊢
  exact fin_tail (fin_tail (fin_here (hk _ g3)))
set_option maxHeartbeats 4000000 in
set_option maxRecDepth 20000 in
theorem form8_7 {d : DeedD} (bv : Value) (hd : IsDeed h bv d) (hr : rightD d = true) (kk : d.kind = 7) (hk : ∀ o, okO o (encD d).length → K (ovs o (encD d).length) (oent 5 1 o ((encD d).map (.int .u8)) L) h) : Spec Tryz.prog 155 [deedV d bv] L h K := by
  have ff := rightD_facts hr
  have hamt := hd.ok.a
  have hi := hd.i
  have ob := hd.i.open
  obtain ⟨x1, y1, rfl, _, hlen, _⟩ := ob
  refine x_enter Tryz.func155 rfl (rs := [_]) rfl rfl mixed (by kernel_rfl) rfl rfl ?_
  simp -dsimp -implicitDefEqProofs (disch := first | with_reducible assumption | omega) [go_sem]
  refine xnew fun b1 n_b1 h_b1 => ?_
  try simp only [Apart] at n_b1
  simp -dsimp -implicitDefEqProofs (disch := first | with_reducible assumption | omega) [go_sem]
  refine num8_any [_] (o := none) (bs := []) d.kind (by omega) (by omega) rfl (by simp) fun o1 B1 e1 g1 l1 => ?_
  simp only [List.length_nil] at l1
  try simp only [List.cons_append, List.nil_append]
  simp -dsimp -implicitDefEqProofs (disch := first | with_reducible assumption | omega) [go_sem]
  refine uses_any _ hi 1 (by simp) ?_
  rw [(by simp [usesB, kk] : usesB d.kind d.what 1 = true)]
  simp -dsimp -implicitDefEqProofs (disch := first | with_reducible assumption | omega) [go_sem]
  refine num8_any [_] (o := o1) (bs := B1) d.acct (by omega) (by omega) g1 (by omega) fun o2 B2 e2 g2 l2 => ?_
  try simp only [List.cons_append, List.nil_append]
  simp -dsimp -implicitDefEqProofs (disch := first | with_reducible assumption | omega) [go_sem]
  refine uses_any _ hi 2 (by simp) ?_
  rw [(by simp [usesB, kk] : usesB d.kind d.what 2 = true)]
  simp -dsimp -implicitDefEqProofs (disch := first | with_reducible assumption | omega) [go_sem]
  refine num8_any [_] (o := o2) (bs := B2) d.mem (by omega) (by omega) g2 (by omega) fun o3 B3 e3 g3 l3 => ?_
  try simp only [List.cons_append, List.nil_append]
  simp -dsimp -implicitDefEqProofs (disch := first | with_reducible assumption | omega) [go_sem]
  refine uses_any _ hi 5 (by simp) ?_
  rw [(by simp [usesB, kk] : usesB d.kind d.what 5 = false)]
  simp -dsimp -implicitDefEqProofs (disch := first | with_reducible assumption | omega) [go_sem]
  refine uses_any _ hi 6 (by simp) ?_
  rw [(by simp [usesB, kk] : usesB d.kind d.what 6 = false)]
  simp -dsimp -implicitDefEqProofs (disch := first | with_reducible assumption | omega) [go_sem]
  refine uses_any _ hi 7 (by simp) ?_
  rw [(by simp [usesB, kk] : usesB d.kind d.what 7 = false)]
  simp -dsimp -implicitDefEqProofs (disch := first | with_reducible assumption | omega) [go_sem]
  refine uses_any _ hi 3 (by simp) ?_
  rw [(by simp [usesB, kk] : usesB d.kind d.what 3 = false)]
  simp -dsimp -implicitDefEqProofs (disch := first | with_reducible assumption | omega) [go_sem]
  refine uses_any _ hi 4 (by simp) ?_
  rw [(by simp [usesB, kk] : usesB d.kind d.what 4 = false)]
  simp -dsimp -implicitDefEqProofs (disch := first | with_reducible assumption | omega) [go_sem]
  refine uses_any _ hi 8 (by simp) ?_
  rw [(by simp [usesB, kk] : usesB d.kind d.what 8 = true)]
  simp -dsimp -implicitDefEqProofs (disch := first | with_reducible assumption | omega) [go_sem]
  refine num8_any [_] (o := o3) (bs := B3) d.mot (by omega) (by omega) g3 (by omega) fun o4 B4 e4 g4 l4 => ?_
  try simp only [List.cons_append, List.nil_append]
  simp -dsimp -implicitDefEqProofs (disch := first | with_reducible assumption | omega) [go_sem]
  cases hy : d.yes with
  | false =>
    simp -dsimp -implicitDefEqProofs (disch := first | with_reducible assumption | omega) [go_sem, hy]
    refine num8_any [_] (o := o4) (bs := B4) 0 (by omega) (by omega) g4 (by omega) fun o9 B9 e9 g9 l9 => ?_
    try simp only [List.cons_append, List.nil_append]
    simp -dsimp -implicitDefEqProofs (disch := first | with_reducible assumption | omega) [go_sem]
    have eE : B9 = encD d := by simp [encD, paidD, wi, kk, hy, e9, e1, e2, e3, e4]
    rw [eE] at g9 ⊢
    exact fin_tail (fin_here (hk _ g9))
  | true =>
    simp -dsimp -implicitDefEqProofs (disch := first | with_reducible assumption | omega) [go_sem, hy]
    refine num8_any [_] (o := o4) (bs := B4) 1 (by omega) (by omega) g4 (by omega) fun o9 B9 e9 g9 l9 => ?_
    try simp only [List.cons_append, List.nil_append]
    simp -dsimp -implicitDefEqProofs (disch := first | with_reducible assumption | omega) [go_sem]
    have eE : B9 = encD d := by simp [encD, paidD, wi, kk, hy, e9, e1, e2, e3, e4]
    rw [eE] at g9 ⊢
    exact fin_tail (fin_here (hk _ g9))
set_option maxHeartbeats 4000000 in
set_option maxRecDepth 20000 in
theorem form8_6w1 {d : DeedD} (bv : Value) (hd : IsDeed h bv d) (hr : rightD d = true) (kk : d.kind = 6) (ww : d.what = 1) (hk : ∀ o, okO o (encD d).length → K (ovs o (encD d).length) (oent 5 1 o ((encD d).map (.int .u8)) L) h) : Spec Tryz.prog 155 [deedV d bv] L h K := by
  have ff := rightD_facts hr
  have hamt := hd.ok.a
  have hwh := rightD_what hr kk
  have hi := hd.i
  have ob := hd.i.open
  obtain ⟨x1, y1, rfl, _, hlen, _⟩ := ob
  refine x_enter Tryz.func155 rfl (rs := [_]) rfl rfl mixed (by kernel_rfl) rfl rfl ?_
  simp -dsimp -implicitDefEqProofs (disch := first | with_reducible assumption | omega) [go_sem]
  refine xnew fun b1 n_b1 h_b1 => ?_
  try simp only [Apart] at n_b1
  simp -dsimp -implicitDefEqProofs (disch := first | with_reducible assumption | omega) [go_sem]
  refine num8_any [_] (o := none) (bs := []) d.kind (by omega) (by omega) rfl (by simp) fun o1 B1 e1 g1 l1 => ?_
  simp only [List.length_nil] at l1
  try simp only [List.cons_append, List.nil_append]
  simp -dsimp -implicitDefEqProofs (disch := first | with_reducible assumption | omega) [go_sem]
  refine uses_any _ hi 1 (by simp) ?_
  rw [(by simp [usesB, kk, ww] : usesB d.kind d.what 1 = true)]
  simp -dsimp -implicitDefEqProofs (disch := first | with_reducible assumption | omega) [go_sem]
  refine num8_any [_] (o := o1) (bs := B1) d.acct (by omega) (by omega) g1 (by omega) fun o2 B2 e2 g2 l2 => ?_
  try simp only [List.cons_append, List.nil_append]
  simp -dsimp -implicitDefEqProofs (disch := first | with_reducible assumption | omega) [go_sem]
  refine uses_any _ hi 2 (by simp) ?_
  rw [(by simp [usesB, kk, ww] : usesB d.kind d.what 2 = false)]
  simp -dsimp -implicitDefEqProofs (disch := first | with_reducible assumption | omega) [go_sem]
  refine uses_any _ hi 5 (by simp) ?_
  rw [(by simp [usesB, kk, ww] : usesB d.kind d.what 5 = false)]
  simp -dsimp -implicitDefEqProofs (disch := first | with_reducible assumption | omega) [go_sem]
  refine uses_any _ hi 6 (by simp) ?_
  rw [(by simp [usesB, kk, ww] : usesB d.kind d.what 6 = true)]
  simp -dsimp -implicitDefEqProofs (disch := first | with_reducible assumption | omega) [go_sem]
  refine num8_any [_] (o := o2) (bs := B2) d.what (by omega) (by omega) g2 (by omega) fun o3 B3 e3 g3 l3 => ?_
  try simp only [List.cons_append, List.nil_append]
  simp -dsimp -implicitDefEqProofs (disch := first | with_reducible assumption | omega) [go_sem]
  refine uses_any _ hi 7 (by simp) ?_
  rw [(by simp [usesB, kk, ww] : usesB d.kind d.what 7 = true)]
  simp -dsimp -implicitDefEqProofs (disch := first | with_reducible assumption | omega) [go_sem]
  have lr := encP_len hd.ok.p (hwh.2.2 ww)
  have lp : 0 < (encP d.par).length := by simp only [encP, wides, flatN, List.cons_append, List.length_append]; have := formN_pos d.par.inc.toNat; omega
  refine pform_any _ hd.ok.p (hwh.2.2 ww) fun q4 t4 m4 => ?_
  try simp only [List.cons_append, List.nil_append]
  simp -dsimp -implicitDefEqProofs (disch := first | with_reducible assumption | omega) [go_sem]
  refine append_own2 _ o3 q4 B3 (encP d.par) g3 t4 m4 lp (by omega) fun o4 xb4 xc4 xp4 g4 j4 => ?_
  simp only at j4
  obtain ⟨B4, e4⟩ : ∃ B, B = B3 ++ (encP d.par) := ⟨_, rfl⟩
  rw [← e4] at g4 ⊢
  have l4 : B4.length ≤ B3.length + 300 := by rw [e4, List.length_append]; omega
  try simp only [List.cons_append, List.nil_append]
  simp -dsimp -implicitDefEqProofs (disch := first | with_reducible assumption | omega) [go_sem]
  refine uses_any _ hi 3 (by simp) ?_
  rw [(by simp [usesB, kk, ww] : usesB d.kind d.what 3 = false)]
  simp -dsimp -implicitDefEqProofs (disch := first | with_reducible assumption | omega) [go_sem]
  refine uses_any _ hi 4 (by simp) ?_
  rw [(by simp [usesB, kk, ww] : usesB d.kind d.what 4 = false)]
  simp -dsimp -implicitDefEqProofs (disch := first | with_reducible assumption | omega) [go_sem]
  refine uses_any _ hi 8 (by simp) ?_
  rw [(by simp [usesB, kk, ww] : usesB d.kind d.what 8 = false)]
  simp -dsimp -implicitDefEqProofs (disch := first | with_reducible assumption | omega) [go_sem]
  have eE : B4 = encD d := by simp [encD, paidD, wi, kk, ww, e1, e2, e3, e4]
  rw [eE] at g4 ⊢
  exact fin_tail (fin_tail (fin_here (hk _ g4)))
set_option maxHeartbeats 4000000 in
set_option maxRecDepth 20000 in
theorem form8_6w2 {d : DeedD} (bv : Value) (hd : IsDeed h bv d) (hr : rightD d = true) (kk : d.kind = 6) (ww : d.what = 2) (hk : ∀ o, okO o (encD d).length → K (ovs o (encD d).length) (oent 5 1 o ((encD d).map (.int .u8)) L) h) : Spec Tryz.prog 155 [deedV d bv] L h K := by
  have ff := rightD_facts hr
  have hamt := hd.ok.a
  have hwh := rightD_what hr kk
  have hi := hd.i
  have ob := hd.i.open
  obtain ⟨x1, y1, rfl, _, hlen, _⟩ := ob
  refine x_enter Tryz.func155 rfl (rs := [_]) rfl rfl mixed (by kernel_rfl) rfl rfl ?_
  simp -dsimp -implicitDefEqProofs (disch := first | with_reducible assumption | omega) [go_sem]
  refine xnew fun b1 n_b1 h_b1 => ?_
  try simp only [Apart] at n_b1
  simp -dsimp -implicitDefEqProofs (disch := first | with_reducible assumption | omega) [go_sem]
  refine num8_any [_] (o := none) (bs := []) d.kind (by omega) (by omega) rfl (by simp) fun o1 B1 e1 g1 l1 => ?_
  simp only [List.length_nil] at l1
  try simp only [List.cons_append, List.nil_append]
  simp -dsimp -implicitDefEqProofs (disch := first | with_reducible assumption | omega) [go_sem]
  refine uses_any _ hi 1 (by simp) ?_
  rw [(by simp [usesB, kk, ww] : usesB d.kind d.what 1 = true)]
  simp -dsimp -implicitDefEqProofs (disch := first | with_reducible assumption | omega) [go_sem]
  refine num8_any [_] (o := o1) (bs := B1) d.acct (by omega) (by omega) g1 (by omega) fun o2 B2 e2 g2 l2 => ?_
  try simp only [List.cons_append, List.nil_append]
  simp -dsimp -implicitDefEqProofs (disch := first | with_reducible assumption | omega) [go_sem]
  refine uses_any _ hi 2 (by simp) ?_
  rw [(by simp [usesB, kk, ww] : usesB d.kind d.what 2 = false)]
  simp -dsimp -implicitDefEqProofs (disch := first | with_reducible assumption | omega) [go_sem]
  refine uses_any _ hi 5 (by simp) ?_
  rw [(by simp [usesB, kk, ww] : usesB d.kind d.what 5 = false)]
  simp -dsimp -implicitDefEqProofs (disch := first | with_reducible assumption | omega) [go_sem]
  refine uses_any _ hi 6 (by simp) ?_
  rw [(by simp [usesB, kk, ww] : usesB d.kind d.what 6 = true)]
  simp -dsimp -implicitDefEqProofs (disch := first | with_reducible assumption | omega) [go_sem]
  refine num8_any [_] (o := o2) (bs := B2) d.what (by omega) (by omega) g2 (by omega) fun o3 B3 e3 g3 l3 => ?_
  try simp only [List.cons_append, List.nil_append]
  simp -dsimp -implicitDefEqProofs (disch := first | with_reducible assumption | omega) [go_sem]
  refine uses_any _ hi 7 (by simp) ?_
  rw [(by simp [usesB, kk, ww] : usesB d.kind d.what 7 = false)]
  simp -dsimp -implicitDefEqProofs (disch := first | with_reducible assumption | omega) [go_sem]
  refine uses_any _ hi 3 (by simp) ?_
  rw [(by simp [usesB, kk, ww] : usesB d.kind d.what 3 = true)]
  simp -dsimp -implicitDefEqProofs (disch := first | with_reducible assumption | omega) [go_sem]
  refine num8_any [_] (o := o3) (bs := B3) d.to (by omega) (by omega) g3 (by omega) fun o4 B4 e4 g4 l4 => ?_
  try simp only [List.cons_append, List.nil_append]
  simp -dsimp -implicitDefEqProofs (disch := first | with_reducible assumption | omega) [go_sem]
  refine uses_any _ hi 4 (by simp) ?_
  rw [(by simp [usesB, kk, ww] : usesB d.kind d.what 4 = true)]
  simp -dsimp -implicitDefEqProofs (disch := first | with_reducible assumption | omega) [go_sem]
  have lf := form10 (n := d.amt.toNat) (by omega)
  refine rformI_any d.amt (by omega) (by omega) fun q5 t5 m5 => ?_
  try simp only [List.cons_append, List.nil_append]
  simp -dsimp -implicitDefEqProofs (disch := first | with_reducible assumption | omega) [go_sem]
  refine append_own2 _ o4 q5 B4 (formN d.amt.toNat) g4 t5 m5 (formN_pos _) (by omega) fun o5 xb5 xc5 xp5 g5 j5 => ?_
  simp only at j5
  obtain ⟨B5, e5⟩ : ∃ B, B = B4 ++ (formN d.amt.toNat) := ⟨_, rfl⟩
  rw [← e5] at g5 ⊢
  have l5 : B5.length ≤ B4.length + 300 := by rw [e5, List.length_append]; omega
  try simp only [List.cons_append, List.nil_append]
  simp -dsimp -implicitDefEqProofs (disch := first | with_reducible assumption | omega) [go_sem]
  refine uses_any _ hi 8 (by simp) ?_
  rw [(by simp [usesB, kk, ww] : usesB d.kind d.what 8 = false)]
  simp -dsimp -implicitDefEqProofs (disch := first | with_reducible assumption | omega) [go_sem]
  have eE : B5 = encD d := by simp [encD, paidD, wi, kk, ww, e1, e2, e3, e4, e5]
  rw [eE] at g5 ⊢
  exact fin_tail (fin_tail (fin_here (hk _ g5)))
set_option maxHeartbeats 4000000 in
set_option maxRecDepth 20000 in
theorem form8_6w3 {d : DeedD} (bv : Value) (hd : IsDeed h bv d) (hr : rightD d = true) (kk : d.kind = 6) (w1 : ¬ d.what = 1) (w2 : ¬ d.what = 2) (hk : ∀ o, okO o (encD d).length → K (ovs o (encD d).length) (oent 5 1 o ((encD d).map (.int .u8)) L) h) : Spec Tryz.prog 155 [deedV d bv] L h K := by
  have ff := rightD_facts hr
  have hamt := hd.ok.a
  have hwh := rightD_what hr kk
  have hi := hd.i
  have ob := hd.i.open
  obtain ⟨x1, y1, rfl, _, hlen, _⟩ := ob
  refine x_enter Tryz.func155 rfl (rs := [_]) rfl rfl mixed (by kernel_rfl) rfl rfl ?_
  simp -dsimp -implicitDefEqProofs (disch := first | with_reducible assumption | omega) [go_sem]
  refine xnew fun b1 n_b1 h_b1 => ?_
  try simp only [Apart] at n_b1
  simp -dsimp -implicitDefEqProofs (disch := first | with_reducible assumption | omega) [go_sem]
  refine num8_any [_] (o := none) (bs := []) d.kind (by omega) (by omega) rfl (by simp) fun o1 B1 e1 g1 l1 => ?_
  simp only [List.length_nil] at l1
  try simp only [List.cons_append, List.nil_append]
  simp -dsimp -implicitDefEqProofs (disch := first | with_reducible assumption | omega) [go_sem]
  refine uses_any _ hi 1 (by simp) ?_
  rw [(by simp [usesB, kk, w1, w2] : usesB d.kind d.what 1 = true)]
  simp -dsimp -implicitDefEqProofs (disch := first | with_reducible assumption | omega) [go_sem]
  refine num8_any [_] (o := o1) (bs := B1) d.acct (by omega) (by omega) g1 (by omega) fun o2 B2 e2 g2 l2 => ?_
  try simp only [List.cons_append, List.nil_append]
  simp -dsimp -implicitDefEqProofs (disch := first | with_reducible assumption | omega) [go_sem]
  refine uses_any _ hi 2 (by simp) ?_
  rw [(by simp [usesB, kk, w1, w2] : usesB d.kind d.what 2 = false)]
  simp -dsimp -implicitDefEqProofs (disch := first | with_reducible assumption | omega) [go_sem]
  refine uses_any _ hi 5 (by simp) ?_
  rw [(by simp [usesB, kk, w1, w2] : usesB d.kind d.what 5 = false)]
  simp -dsimp -implicitDefEqProofs (disch := first | with_reducible assumption | omega) [go_sem]
  refine uses_any _ hi 6 (by simp) ?_
  rw [(by simp [usesB, kk, w1, w2] : usesB d.kind d.what 6 = true)]
  simp -dsimp -implicitDefEqProofs (disch := first | with_reducible assumption | omega) [go_sem]
  refine num8_any [_] (o := o2) (bs := B2) d.what (by omega) (by omega) g2 (by omega) fun o3 B3 e3 g3 l3 => ?_
  try simp only [List.cons_append, List.nil_append]
  simp -dsimp -implicitDefEqProofs (disch := first | with_reducible assumption | omega) [go_sem]
  refine uses_any _ hi 7 (by simp) ?_
  rw [(by simp [usesB, kk, w1, w2] : usesB d.kind d.what 7 = false)]
  simp -dsimp -implicitDefEqProofs (disch := first | with_reducible assumption | omega) [go_sem]
  refine uses_any _ hi 3 (by simp) ?_
  rw [(by simp [usesB, kk, w1, w2] : usesB d.kind d.what 3 = false)]
  simp -dsimp -implicitDefEqProofs (disch := first | with_reducible assumption | omega) [go_sem]
  refine uses_any _ hi 4 (by simp) ?_
  rw [(by simp [usesB, kk, w1, w2] : usesB d.kind d.what 4 = false)]
  simp -dsimp -implicitDefEqProofs (disch := first | with_reducible assumption | omega) [go_sem]
  refine uses_any _ hi 8 (by simp) ?_
  rw [(by simp [usesB, kk, w1, w2] : usesB d.kind d.what 8 = false)]
  simp -dsimp -implicitDefEqProofs (disch := first | with_reducible assumption | omega) [go_sem]
  have eE : B3 = encD d := by simp [encD, paidD, wi, kk, w1, w2, e1, e2, e3]
  rw [eE] at g3 ⊢
  exact fin_tail (fin_here (hk _ g3))
theorem form8_any {d : DeedD} (bv : Value) (hd : IsDeed h bv d) (hr : rightD d = true) (hk : ∀ o, okO o (encD d).length → K (ovs o (encD d).length) (oent 5 1 o ((encD d).map (.int .u8)) L) h) : Spec Tryz.prog 155 [deedV d bv] L h K := by
  have ff := rightD_facts hr
  by_cases k1 : d.kind = 1
  · exact form8_1 bv hd hr k1 hk
  by_cases k2 : d.kind = 2
  · exact form8_2 bv hd hr k2 hk
  by_cases k3 : d.kind = 3
  · exact form8_3 bv hd hr k3 hk
  by_cases k4 : d.kind = 4
  · exact form8_4 bv hd hr k4 hk
  by_cases k5 : d.kind = 5
  · exact form8_5 bv hd hr k5 hk
  by_cases k7 : d.kind = 7
  · exact form8_7 bv hd hr k7 hk
  have k6 : d.kind = 6 := by omega
  by_cases w1 : d.what = 1
  · exact form8_6w1 bv hd hr k6 w1 hk
  by_cases w2 : d.what = 2
  · exact form8_6w2 bv hd hr k6 w2 hk
  exact form8_6w3 bv hd hr k6 w1 w2 hk
end Go.X
namespace Go.X
open Go.RowKit Go.Proofs Go.Bl
variable {L : Own} {h : PH} {K : PK}
end Go.X
/- The contract of bullionref09.Form. Conditions: the value reads as a list of at most 64 deeds that are right. -/
set_option linter.unusedVariables false
set_option linter.unusedSimpArgs false
namespace Go.X
open Go.RowKit Go.Proofs Go.Bl
variable {L : Own} {h : PH} {K : PK}
set_option maxHeartbeats 4000000 in
set_option maxRecDepth 20000 in
theorem form9_any {l : List QD} (v : Value) (hd0 : Deeds h v l) (hn : l.length ≤ 64) (hr : ∀ d ∈ dl l, rightD d = true) (hk : ∀ h' r, PH.le h h' → Ints h' .u8 r (encB (dl l)) → K r L h') : Spec Tryz.prog 83 [v] L h K := by
  obtain ⟨a, c, rfl, hc, hl, _, hd⟩ := hd0.open
  have hAllR : AllR (dl l) := fun d hdm => by
    refine ⟨?_, hr d hdm⟩
    obtain ⟨q, hq, rfl⟩ := List.mem_map.1 hdm
    exact (hd.d q hq).ok
  obtain ⟨B, hB⟩ : ∃ B : Nat → List Int, ∀ i, B i = formN l.length ++ encL ((dl l).take i) := ⟨_, fun _ => rfl⟩
  have hBl : ∀ k, (B k).length ≤ 26000 := fun k => by
    have h1 := encL_len (l := (dl l).take k) fun d hd => hAllR d (List.mem_of_mem_take hd)
    rw [hB, List.length_append, formN_lt (by omega)]
    simp only [List.length_singleton]
    simp only [List.length_take, dl_len] at h1
    omega
  refine x_enter Tryz.func83 rfl (rs := [_]) rfl rfl mixed (by kernel_rfl) rfl rfl ?_
  simp -dsimp -implicitDefEqProofs (disch := first | with_reducible assumption | omega) [go_sem]
  refine rformI_any (l.length : Int) (by omega) (by omega) fun o2 k2 m2 => ?_
  simp only [Int.toNat_natCast] at k2 m2 ⊢
  have e0 : formN l.length = B 0 := by rw [hB]; simp [encL]
  rw [e0] at k2 ⊢
  simp -dsimp -implicitDefEqProofs (disch := first | with_reducible assumption | omega) [go_sem]
  refine xloop (γ := Nat × Option (Nat × Nat)) (0, o2) (fun s => s.1 ≤ l.length ∧ okO s.2 (B s.1).length ∧ apO s.2 L h) (fun s => [(4, .int .i64 s.1), (3, ovs s.2 (B s.1).length), (0, .slice a l.length c)])
    (fun s => oent 5 1 s.2 ((B s.1).map (.int .u8)) L) (fun _ => h) (fun s => l.length - s.1) ?_ ?_ ?_ ?_
  · exact ⟨Nat.zero_le _, k2, m2⟩
  · simp [Ent, List.lookup, xEnv]
  · exact Drop.refl _ _
  rintro ⟨k, o⟩ ⟨k1, k2, k3⟩
  simp only at k1 k2 k3 ⊢
  have hb1 := hBl k
  have hb2 := hBl (k + 1)
  by_cases c1 : k < l.length
  · have hi := hd.at c1
    obtain ⟨x1, y1, hv, _⟩ := hi.i.open
    have et : B (k + 1) = B k ++ encD (gq l k).2 := by
      have h1 := dl_gq c1
      obtain ⟨h2, h3⟩ := List.getElem?_eq_some_iff.1 h1
      rw [hB, hB, List.take_succ_eq_append_getElem h2, h3, encL_app, List.append_assoc]
      simp [encL]
    have hrk := hr _ (mem_gq c1)
    have hel := encD_len hi.ok hrk
    simp -dsimp -implicitDefEqProofs (disch := first | with_reducible assumption | omega) [go_sem, ↓idxD hd]
    rw [hv] at hi ⊢
    refine form8_any _ hi hrk fun o5 k5 => ?_
    simp -dsimp -implicitDefEqProofs (disch := first | with_reducible assumption | omega) [go_sem]
    cases o5 with
    | none =>
      have : (encD (gq l k).2).length = 0 := k5
      omega
    | some p5 =>
      obtain ⟨b5, cap5⟩ := p5
      refine xappend (t := 38) (e := 5) (sz := 1) (bytes := 1) (z := [.int .u8 0]) (by kernel_rfl) tI_5 rfl rfl rfl rfl (by decide) [⟨b5, 5, (encD (gq l k).2).map (.int .u8), cap5 * 1⟩] L o (B k).length ((B k).map (.int .u8)) k2 (by simp) (m := (encD (gq l k).2).length) (news := (encD (gq l k).2).map (.int .u8)) (Src.own (b := b5) (t := 5) (cap := cap5 * 1) (by simp)) (by simp) (ints_one _ _) (by simp only [maxLen]; omega) (by omega) ?_
      intro o3 i1 i2 i3
      rw [← List.map_append, ← List.length_append, ← et] at *
      simp -dsimp -implicitDefEqProofs (disch := first | with_reducible assumption | omega) [go_sem]
      exact ⟨k + 1, o3, ⟨by omega, i1, apO_tail i2⟩, by omega, by simp [Ent, List.lookup], Drop.tail _ _ _⟩
  · have hkl : k = l.length := by omega
    subst hkl
    have htk : (dl l).take l.length = dl l := by rw [← dl_len l, List.take_length]
    have eB : B l.length = encB (dl l) := by rw [hB, htk, encB, dl_len]
    have hbb : ∀ d ∈ dl l, ∀ z ∈ d.bits, 0 ≤ z ∧ z ≤ 255 := fun d hdm => by
      obtain ⟨q, hq, rfl⟩ := List.mem_map.1 hdm
      exact byte_of (hd.d q hq).i
    rw [eB] at k2 hb1 ⊢
    simp -dsimp -implicitDefEqProofs (disch := first | with_reducible assumption | omega) [go_sem]
    exact fin_pub (n := (encB (dl l)).length) k2 (by simp) (by omega) k3 fun h' le sl => fin_here (hk h' _ le (form_ints (encB_byte hbb) sl))
end Go.X

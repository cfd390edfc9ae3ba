/- Part of the proof of a statement about the given program: lemmas and contracts. Conditions: as each says. -/
import Derived.Test.YtemlppiklgeogaaGreatQ07
import Derived.Test.YtemlppiklgeogaaGreatQ14
import Derived.Test.YtemlppiklgeogaaGreatQ15
import Derived.Test.YtemlppiklgeogaaGreatQ16
/- Contracts of bullionlaw24.Plain and its parts, and of bullionref24.Same of like states. Conditions: the values read as states. -/
set_option linter.unusedVariables false
set_option linter.unusedSimpArgs false
namespace Go.X
open Go.RowKit Go.Proofs Go.Bl
variable {L : Own} {h : PH} {K : PK}
set_option maxRecDepth 20000 in
theorem mplain1_any (m : MemD) (hk : K (.agg #[.int .u64 m.bal, .int .u64 m.eff, .int .u64 m.score, .int .i64 m.streak, .int .i64 m.owner, .int .i64 m.status]) L h) : Spec Tryz.prog 171 [.agg #[.int .u64 m.bal, .int .u64 m.eff, .int .u64 m.score, .int .i64 m.streak, .int .i64 m.owner, .int .i64 m.status]] L h K := by
  refine x_enter Tryz.func171 rfl (rs := [_]) rfl rfl mixed (by kernel_rfl) rfl rfl ?_
  simp -dsimp -implicitDefEqProofs (disch := first | with_reducible assumption | omega) [go_sem]
  refine xnew fun b1 n_b1 h_b1 => ?_
  try simp only [Apart] at n_b1
  simp -dsimp -implicitDefEqProofs (disch := first | with_reducible assumption | omega) [go_sem]
  refine xnew fun b2 n_b2 h_b2 => ?_
  try simp only [Apart] at n_b2
  simp -dsimp -implicitDefEqProofs (disch := first | with_reducible assumption | omega) [go_sem]
  exact fin_tail (fin_tail (fin_here hk))

set_option maxHeartbeats 1600000 in
set_option maxRecDepth 20000 in
theorem mplain_any {l : List MemD} (v : Value) (hd0 : Recs memC 6 h v l) (hn : l.length ≤ 100000) (hk : ∀ h' r, PH.le h h' → Recs memC 6 h' r l → K r L h') : Spec Tryz.prog 50 [v] L h K := by
  obtain ⟨a, c, rfl, hc, hl, _, hd⟩ := hd0.open
  refine x_enter Tryz.func50 rfl (rs := [_]) rfl rfl mixed (by kernel_rfl) rfl rfl ?_
  simp -dsimp -implicitDefEqProofs (disch := first | with_reducible assumption | omega) [go_sem]
  refine xloop (γ := Nat × Option (Nat × Nat)) (0, none) (fun s => s.1 ≤ l.length ∧ okO s.2 s.1 ∧ apO s.2 L h) (fun s => [(8, .int .i64 s.1), (7, .int .i64 l.length), (6, .slice a l.length c), (3, ovs s.2 s.1)])
    (fun s => oent 148 6 s.2 ((l.take s.1).flatMap memC) L) (fun _ => h) (fun s => l.length - s.1) ?_ ?_ ?_ ?_
  · exact ⟨Nat.zero_le _, rfl, trivial⟩
  · simp [Ent, List.lookup, xEnv, ovs]
  · exact Drop.refl _ _
  rintro ⟨k, o⟩ ⟨k1, k2, k3⟩
  simp only at k1 k2 k3 ⊢
  have hlt : (l.take k).length = k := by simp [k1]
  by_cases c1 : k < l.length
  · have et : l.take (k + 1) = l.take k ++ [gr zeroM l k] := by rw [gr_lt c1, List.take_succ_eq_append_getElem c1]
    simp -dsimp -implicitDefEqProofs (disch := first | with_reducible assumption | omega) [go_sem, ↓idxR zeroM (by decide) hd, memC]
    refine xnew fun b1 n_b1 h_b1 => ?_
    try simp only [Apart] at n_b1
    simp -dsimp -implicitDefEqProofs (disch := first | with_reducible assumption | omega) [go_sem, memC]
    refine mplain1_any (gr zeroM l k) ?_
    simp -dsimp -implicitDefEqProofs (disch := first | with_reducible assumption | omega) [go_sem]
    refine xnew fun b2 n_b2 h_b2 => ?_
    try simp only [Apart] at n_b2
    simp -dsimp -implicitDefEqProofs (disch := first | with_reducible assumption | omega) [go_sem, memC]
    refine xappend (t := 41) (e := 148) (sz := 6) (bytes := 48) (by kernel_rfl) tI_148 rfl rfl rfl rfl (by decide) [_, _] L o k ((l.take k).flatMap memC) k2 (by rw [flatG_len hd.len, hlt]) (Src.own List.mem_cons_self) (m := 1) (news := memC (gr zeroM l k)) rfl (by intro u hu; simp only [memC, List.mem_cons, List.not_mem_nil, or_false] at hu; rcases hu with rfl | rfl | rfl | rfl | rfl | rfl <;> rfl) (by simp [maxLen]; omega) (by omega) ?_
    intro o' j1 j2 j3
    simp -dsimp -implicitDefEqProofs (disch := first | with_reducible assumption | omega) [go_sem]
    refine ⟨k + 1, o', ⟨by omega, j1, apO_tail (apO_tail j2)⟩, by omega, by simp [Ent, List.lookup], ?_⟩
    rw [et, List.flatMap_append, List.flatMap_cons, List.flatMap_nil, List.append_nil]
    exact (Drop.tail _ _ _).trans (Drop.tail _ _ _)
  · have hkl : k = l.length := by omega
    subst hkl
    simp -dsimp -implicitDefEqProofs (disch := first | with_reducible assumption | omega) [go_sem]
    exact fin_pub (n := l.length) k2 (flatG_len hd.len l) (by omega) k3 fun h' le sl => fin_here (hk h' _ le (Recs.pub hd.len sl))

set_option maxHeartbeats 1600000 in
set_option maxRecDepth 20000 in
theorem depplain_any {l : List DepD} (v : Value) (hd0 : Recs depC 4 h v l) (hn : l.length ≤ 100000) (hk : ∀ h' r, PH.le h h' → Recs depC 4 h' r l → K r L h') : Spec Tryz.prog 51 [v] L h K := by
  obtain ⟨a, c, rfl, hc, hl, _, hd⟩ := hd0.open
  refine x_enter Tryz.func51 rfl (rs := [_]) rfl rfl mixed (by kernel_rfl) rfl rfl ?_
  simp -dsimp -implicitDefEqProofs (disch := first | with_reducible assumption | omega) [go_sem]
  refine xloop (γ := Nat × Option (Nat × Nat)) (0, none) (fun s => s.1 ≤ l.length ∧ okO s.2 s.1 ∧ apO s.2 L h) (fun s => [(8, .int .i64 s.1), (7, .int .i64 l.length), (6, .slice a l.length c), (3, ovs s.2 s.1)])
    (fun s => oent 159 4 s.2 ((l.take s.1).flatMap depC) L) (fun _ => h) (fun s => l.length - s.1) ?_ ?_ ?_ ?_
  · exact ⟨Nat.zero_le _, rfl, trivial⟩
  · simp [Ent, List.lookup, xEnv, ovs]
  · exact Drop.refl _ _
  rintro ⟨k, o⟩ ⟨k1, k2, k3⟩
  simp only at k1 k2 k3 ⊢
  have hlt : (l.take k).length = k := by simp [k1]
  by_cases c1 : k < l.length
  · have et : l.take (k + 1) = l.take k ++ [gr zeroDep l k] := by rw [gr_lt c1, List.take_succ_eq_append_getElem c1]
    simp -dsimp -implicitDefEqProofs (disch := first | with_reducible assumption | omega) [go_sem, ↓idxR zeroDep (by decide) hd, depC]
    refine xnew fun b1 n_b1 h_b1 => ?_
    try simp only [Apart] at n_b1
    simp -dsimp -implicitDefEqProofs (disch := first | with_reducible assumption | omega) [go_sem, depC]
    refine xnew fun b2 n_b2 h_b2 => ?_
    try simp only [Apart] at n_b2
    simp -dsimp -implicitDefEqProofs (disch := first | with_reducible assumption | omega) [go_sem, depC]
    refine xappend (t := 42) (e := 159) (sz := 4) (bytes := 32) (by kernel_rfl) tI_159 rfl rfl rfl rfl (by decide) [_, _] L o k ((l.take k).flatMap depC) k2 (by rw [flatG_len hd.len, hlt]) (Src.own List.mem_cons_self) (m := 1) (news := depC (gr zeroDep l k)) rfl (by intro u hu; simp only [depC, List.mem_cons, List.not_mem_nil, or_false] at hu; rcases hu with rfl | rfl | rfl | rfl <;> rfl) (by simp [maxLen]; omega) (by omega) ?_
    intro o' j1 j2 j3
    simp -dsimp -implicitDefEqProofs (disch := first | with_reducible assumption | omega) [go_sem]
    refine ⟨k + 1, o', ⟨by omega, j1, apO_tail (apO_tail j2)⟩, by omega, by simp [Ent, List.lookup], ?_⟩
    rw [et, List.flatMap_append, List.flatMap_cons, List.flatMap_nil, List.append_nil]
    exact (Drop.tail _ _ _).trans (Drop.tail _ _ _)
  · have hkl : k = l.length := by omega
    subst hkl
    simp -dsimp -implicitDefEqProofs (disch := first | with_reducible assumption | omega) [go_sem]
    exact fin_pub (n := l.length) k2 (flatG_len hd.len l) (by omega) k3 fun h' le sl => fin_here (hk h' _ le (Recs.pub hd.len sl))

set_option maxHeartbeats 1600000 in
set_option maxRecDepth 20000 in
theorem dueplain_any {l : List DueD} (v : Value) (hd0 : Recs dueC 3 h v l) (hn : l.length ≤ 100000) (hk : ∀ h' r, PH.le h h' → Recs dueC 3 h' r l → K r L h') : Spec Tryz.prog 52 [v] L h K := by
  obtain ⟨a, c, rfl, hc, hl, _, hd⟩ := hd0.open
  refine x_enter Tryz.func52 rfl (rs := [_]) rfl rfl mixed (by kernel_rfl) rfl rfl ?_
  simp -dsimp -implicitDefEqProofs (disch := first | with_reducible assumption | omega) [go_sem]
  refine xloop (γ := Nat × Option (Nat × Nat)) (0, none) (fun s => s.1 ≤ l.length ∧ okO s.2 s.1 ∧ apO s.2 L h) (fun s => [(8, .int .i64 s.1), (7, .int .i64 l.length), (6, .slice a l.length c), (3, ovs s.2 s.1)])
    (fun s => oent 160 3 s.2 ((l.take s.1).flatMap dueC) L) (fun _ => h) (fun s => l.length - s.1) ?_ ?_ ?_ ?_
  · exact ⟨Nat.zero_le _, rfl, trivial⟩
  · simp [Ent, List.lookup, xEnv, ovs]
  · exact Drop.refl _ _
  rintro ⟨k, o⟩ ⟨k1, k2, k3⟩
  simp only at k1 k2 k3 ⊢
  have hlt : (l.take k).length = k := by simp [k1]
  by_cases c1 : k < l.length
  · have et : l.take (k + 1) = l.take k ++ [gr zeroDue l k] := by rw [gr_lt c1, List.take_succ_eq_append_getElem c1]
    simp -dsimp -implicitDefEqProofs (disch := first | with_reducible assumption | omega) [go_sem, ↓idxR zeroDue (by decide) hd, dueC]
    refine xnew fun b1 n_b1 h_b1 => ?_
    try simp only [Apart] at n_b1
    simp -dsimp -implicitDefEqProofs (disch := first | with_reducible assumption | omega) [go_sem, dueC]
    refine xnew fun b2 n_b2 h_b2 => ?_
    try simp only [Apart] at n_b2
    simp -dsimp -implicitDefEqProofs (disch := first | with_reducible assumption | omega) [go_sem, dueC]
    refine xappend (t := 43) (e := 160) (sz := 3) (bytes := 24) (by kernel_rfl) tI_160 rfl rfl rfl rfl (by decide) [_, _] L o k ((l.take k).flatMap dueC) k2 (by rw [flatG_len hd.len, hlt]) (Src.own List.mem_cons_self) (m := 1) (news := dueC (gr zeroDue l k)) rfl (by intro u hu; simp only [dueC, List.mem_cons, List.not_mem_nil, or_false] at hu; rcases hu with rfl | rfl | rfl <;> rfl) (by simp [maxLen]; omega) (by omega) ?_
    intro o' j1 j2 j3
    simp -dsimp -implicitDefEqProofs (disch := first | with_reducible assumption | omega) [go_sem]
    refine ⟨k + 1, o', ⟨by omega, j1, apO_tail (apO_tail j2)⟩, by omega, by simp [Ent, List.lookup], ?_⟩
    rw [et, List.flatMap_append, List.flatMap_cons, List.flatMap_nil, List.append_nil]
    exact (Drop.tail _ _ _).trans (Drop.tail _ _ _)
  · have hkl : k = l.length := by omega
    subst hkl
    simp -dsimp -implicitDefEqProofs (disch := first | with_reducible assumption | omega) [go_sem]
    exact fin_pub (n := l.length) k2 (flatG_len hd.len l) (by omega) k3 fun h' le sl => fin_here (hk h' _ le (Recs.pub hd.len sl))

set_option maxHeartbeats 1600000 in
set_option maxRecDepth 20000 in
theorem motplain_any {l : List QM} (v : Value) (hd0 : Recs motC 33 h v l) (hm : ∀ x ∈ l, IsMot h x) (hn : l.length ≤ 100000) (hk : ∀ h' r, PH.le h h' → Recs motC 33 h' r l → K r L h') : Spec Tryz.prog 53 [v] L h K := by
  obtain ⟨a, c, rfl, hc, hl, _, hd⟩ := hd0.open
  refine x_enter Tryz.func53 rfl (rs := [_]) rfl rfl mixed (by kernel_rfl) rfl rfl ?_
  simp -dsimp -implicitDefEqProofs (disch := first | with_reducible assumption | omega) [go_sem]
  refine xloop (γ := Nat × Option (Nat × Nat)) (0, none) (fun s => s.1 ≤ l.length ∧ okO s.2 s.1 ∧ apO s.2 L h) (fun s => [(8, .int .i64 s.1), (7, .int .i64 l.length), (6, .slice a l.length c), (3, ovs s.2 s.1)])
    (fun s => oent 150 33 s.2 ((l.take s.1).flatMap motC) L) (fun _ => h) (fun s => l.length - s.1) ?_ ?_ ?_ ?_
  · exact ⟨Nat.zero_le _, rfl, trivial⟩
  · simp [Ent, List.lookup, xEnv, ovs]
  · exact Drop.refl _ _
  rintro ⟨k, o⟩ ⟨k1, k2, k3⟩
  simp only at k1 k2 k3 ⊢
  have hlt : (l.take k).length = k := by simp [k1]
  by_cases c1 : k < l.length
  · have et : l.take (k + 1) = l.take k ++ [gr zeroQM l k] := by rw [gr_lt c1, List.take_succ_eq_append_getElem c1]
    have hx : IsMot h (gr zeroQM l k) := by rw [gr_lt c1]; exact hm _ (List.getElem_mem c1)
    obtain ⟨x1, y1, hv1, _⟩ := hx.y.open
    obtain ⟨x2, y2, hv2, _⟩ := hx.n.open
    simp -dsimp -implicitDefEqProofs (disch := first | with_reducible assumption | omega) [go_sem, ↓idxR zeroQM (by decide) hd, motC]
    refine xnew fun b1 n_b1 h_b1 => ?_
    try simp only [Apart] at n_b1
    simp -dsimp -implicitDefEqProofs (disch := first | with_reducible assumption | omega) [go_sem, motC, hv1, hv2]
    refine xnew fun b2 n_b2 h_b2 => ?_
    try simp only [Apart] at n_b2
    simp -dsimp -implicitDefEqProofs (disch := first | with_reducible assumption | omega) [go_sem, motC, hv1, hv2]
    refine xappend (t := 44) (e := 150) (sz := 33) (bytes := 296) (by kernel_rfl) tI_150 rfl rfl rfl rfl (by decide) [_, _] L o k ((l.take k).flatMap motC) k2 (by rw [flatG_len hd.len, hlt]) (Src.own List.mem_cons_self) (m := 1) (news := motC (.slice x1 (gr zeroQM l k).2.2.yes.length y1, .slice x2 (gr zeroQM l k).2.2.no.length y2, (gr zeroQM l k).2.2)) rfl (by intro u hu; simp only [motC, List.mem_cons, List.cons_append, List.nil_append, List.not_mem_nil, or_false] at hu; rcases hu with rfl | rfl | rfl | rfl | rfl | rfl | rfl | rfl | rfl | rfl | rfl | rfl | rfl | rfl | rfl | rfl | rfl | rfl | rfl | rfl | rfl | rfl | rfl | rfl | rfl | rfl | rfl | rfl | rfl | rfl | rfl | rfl | rfl <;> rfl) (by simp [maxLen]; omega) (by omega) ?_
    intro o' j1 j2 j3
    simp -dsimp -implicitDefEqProofs (disch := first | with_reducible assumption | omega) [go_sem]
    refine ⟨k + 1, o', ⟨by omega, j1, apO_tail (apO_tail j2)⟩, by omega, by simp [Ent, List.lookup], ?_⟩
    rw [et, List.flatMap_append, List.flatMap_cons, List.flatMap_nil, List.append_nil, show gr zeroQM l k = (.slice x1 (gr zeroQM l k).2.2.yes.length y1, .slice x2 (gr zeroQM l k).2.2.no.length y2, (gr zeroQM l k).2.2) from Prod.ext hv1 (Prod.ext hv2 rfl)]
    exact (Drop.tail _ _ _).trans (Drop.tail _ _ _)
  · have hkl : k = l.length := by omega
    subst hkl
    simp -dsimp -implicitDefEqProofs (disch := first | with_reducible assumption | omega) [go_sem]
    exact fin_pub (n := l.length) k2 (flatG_len hd.len l) (by omega) k3 fun h' le sl => fin_here (hk h' _ le (Recs.pub hd.len sl))

end Go.X
/- Contracts of the image's writer: num, int, flag, raw, params, count, called through the pen. Conditions: the writer is the call's own and nothing went wrong. -/
set_option linter.unusedVariables false
set_option linter.unusedSimpArgs false
set_option maxRecDepth 20000
namespace Go.X
open Go.RowKit Go.Proofs Go.Bl
variable {L : Own} {h : PH} {K : PK}
abbrev penW (bw : Nat) : Value := .iface 124 (.pointer (some ⟨bw, 0, none⟩))
/-- the image's writer: what was written; nothing went wrong -/
abbrev iwO (bw : Nat) (o : Option (Nat × Nat)) (B : List Int) (A L : Own) : Own := wG 130 3 [.int .i64 0] bw o (B, 0) A L
theorem penW_num (bw : Nat) (W : World) : (method (Tryz.prog.types.size + Made.depth) 124 (.pointer (some ⟨bw, 0, none⟩)) "bullion/image.num").run Tryz.prog W = .ok (410, .pointer (some ⟨bw, 0, none⟩)) W := by kernel_rfl
theorem penW_int (bw : Nat) (W : World) : (method (Tryz.prog.types.size + Made.depth) 124 (.pointer (some ⟨bw, 0, none⟩)) "bullion/image.int").run Tryz.prog W = .ok (409, .pointer (some ⟨bw, 0, none⟩)) W := by kernel_rfl
theorem penW_flag (bw : Nat) (W : World) : (method (Tryz.prog.types.size + Made.depth) 124 (.pointer (some ⟨bw, 0, none⟩)) "bullion/image.flag").run Tryz.prog W = .ok (408, .pointer (some ⟨bw, 0, none⟩)) W := by kernel_rfl
theorem penW_raw (bw : Nat) (W : World) : (method (Tryz.prog.types.size + Made.depth) 124 (.pointer (some ⟨bw, 0, none⟩)) "bullion/image.raw").run Tryz.prog W = .ok (412, .pointer (some ⟨bw, 0, none⟩)) W := by kernel_rfl
theorem penW_params (bw : Nat) (W : World) : (method (Tryz.prog.types.size + Made.depth) 124 (.pointer (some ⟨bw, 0, none⟩)) "bullion/image.params").run Tryz.prog W = .ok (411, .pointer (some ⟨bw, 0, none⟩)) W := by kernel_rfl
theorem penW_count (bw : Nat) (W : World) : (method (Tryz.prog.types.size + Made.depth) 124 (.pointer (some ⟨bw, 0, none⟩)) "bullion/image.count").run Tryz.prog W = .ok (407, .pointer (some ⟨bw, 0, none⟩)) W := by kernel_rfl
theorem pnW_num (bw : Nat) (K : Value → Prop) (t : Tok K) : xNC Tryz.prog (.func (.method "bullion/image.num") #[penW bw] #[]) K t = K (.func (.method "bullion/image.num") #[penW bw] #[]) := xNC_meth (fun W => by kernel_rfl) K t
theorem pnW_int (bw : Nat) (K : Value → Prop) (t : Tok K) : xNC Tryz.prog (.func (.method "bullion/image.int") #[penW bw] #[]) K t = K (.func (.method "bullion/image.int") #[penW bw] #[]) := xNC_meth (fun W => by kernel_rfl) K t
theorem pnW_flag (bw : Nat) (K : Value → Prop) (t : Tok K) : xNC Tryz.prog (.func (.method "bullion/image.flag") #[penW bw] #[]) K t = K (.func (.method "bullion/image.flag") #[penW bw] #[]) := xNC_meth (fun W => by kernel_rfl) K t
theorem pnW_raw (bw : Nat) (K : Value → Prop) (t : Tok K) : xNC Tryz.prog (.func (.method "bullion/image.raw") #[penW bw] #[]) K t = K (.func (.method "bullion/image.raw") #[penW bw] #[]) := xNC_meth (fun W => by kernel_rfl) K t
theorem pnW_params (bw : Nat) (K : Value → Prop) (t : Tok K) : xNC Tryz.prog (.func (.method "bullion/image.params") #[penW bw] #[]) K t = K (.func (.method "bullion/image.params") #[penW bw] #[]) := xNC_meth (fun W => by kernel_rfl) K t
theorem pnW_count (bw : Nat) (K : Value → Prop) (t : Tok K) : xNC Tryz.prog (.func (.method "bullion/image.count") #[penW bw] #[]) K t = K (.func (.method "bullion/image.count") #[penW bw] #[]) := xNC_meth (fun W => by kernel_rfl) K t
/-- what is read is known, or in a block that stays -/
def RdW (bw : Nat) (A L : Own) (h : PH) (L0 : Own) : Prop := ∀ o B h', PH.le h h' → Drop (iwO bw o B A L) h' L0 h
theorem RdW.nil (bw : Nat) (A L : Own) (h : PH) : RdW bw A L h [] := fun o B h' le => (Drop.forget le).trans fun W hg =>
  ⟨⟨hg.sub, (fun e he => by cases he), List.nodup_nil, (fun e he => by cases he)⟩, (fun e he => by cases he)⟩
theorem RdW.mem {bw : Nat} {A : Own} (L : Own) (h : PH) {x : Blk} (hx : x ∈ A) : RdW bw A L h [x] := fun o B h' le => (Drop.forget le).trans (Drop.mem (List.mem_cons_of_mem _ (List.mem_append_left _ hx)))
theorem RdW.up {bw : Nat} {A L L0 : Own} {h h' : PH} (le : PH.le h h') (hr : RdW bw A L h L0) : RdW bw A L h' L0 → RdW bw A L h' L0 := id
theorem inum_w {bw : Nat} {o : Option (Nat × Nat)} {B : List Int} (A L0 : Own) (hd : RdW bw A L h L0) (a : Addr) (n : Int) (hrd : ∀ (K : Value → Prop) (t : Tok K), xCell L0 h (some a) 0 K t = K (.int .u64 n)) (h0 : 0 ≤ n) (hn : n ≤ 18446744073709551615) (ho : okO o B.length) (hl : B.length ≤ 130000)
    (hk : ∀ h' o' B', PH.le h h' → B' = B ++ formN n.toNat → okO o' B'.length → B'.length ≤ B.length + 10 → K (.tuple #[]) (iwO bw o' B' A L) h') :
    Spec Tryz.prog 410 [.pointer (some ⟨bw, 0, none⟩), .pointer (some a)] (iwO bw o B A L) h K := by
  refine x_enter Tryz.func410 rfl (rs := []) rfl rfl mixed (by kernel_rfl) rfl rfl ?_
  refine xanyl (.tk 0 (.tk 1 (.tk 2 (.tk 3 (.tk 4 (.tkl 5 (.or true 6 (.fin) (.nil)))))))) (by kernel_rfl) (by kernel_rfl) L0 (hd _ _ _ (PH.le_refl _)) ?_
  simp -dsimp -implicitDefEqProofs (disch := first | with_reducible assumption | omega) [go_sem]
  refine (hrd _ _).mpr ?_
  simp -dsimp -implicitDefEqProofs (disch := first | with_reducible assumption | omega) [go_sem]
  refine wnumG_ok (T := 130) (by decide) A n h0 hn ho (by omega) fun h' o' B' le e k1 k2 => ?_
  refine xkp (hd _ _ _ le) ?_
  exact fin_here (hk h' o' _ le e k1 k2)
theorem iint_w {bw : Nat} {o : Option (Nat × Nat)} {B : List Int} (A L0 : Own) (hd : RdW bw A L h L0) (a : Addr) (n : Int) (hrd : ∀ (K : Value → Prop) (t : Tok K), xCell L0 h (some a) 0 K t = K (.int .i64 n)) (h0 : 0 ≤ n) (hn : n ≤ 9223372036854775807) (ho : okO o B.length) (hl : B.length ≤ 130000)
    (hk : ∀ h' o' B', PH.le h h' → B' = B ++ formN n.toNat → okO o' B'.length → B'.length ≤ B.length + 10 → K (.tuple #[]) (iwO bw o' B' A L) h') :
    Spec Tryz.prog 409 [.pointer (some ⟨bw, 0, none⟩), .pointer (some a)] (iwO bw o B A L) h K := by
  refine x_enter Tryz.func409 rfl (rs := []) rfl rfl mixed (by kernel_rfl) rfl rfl ?_
  refine xanyl (.tk 0 (.tk 1 (.tk 2 (.tk 3 (.tk 4 (.tkl 5 (.or true 6 (.fin) (.nil)))))))) (by kernel_rfl) (by kernel_rfl) L0 (hd _ _ _ (PH.le_refl _)) ?_
  simp -dsimp -implicitDefEqProofs (disch := first | with_reducible assumption | omega) [go_sem]
  refine (hrd _ _).mpr ?_
  simp -dsimp -implicitDefEqProofs (disch := first | with_reducible assumption | omega) [go_sem]
  refine wintG_ok (T := 130) (by decide) A n h0 hn ho (by omega) fun h' o' B' le e k1 k2 => ?_
  refine xkp (hd _ _ _ le) ?_
  exact fin_here (hk h' o' _ le e k1 k2)
theorem iflag_w {bw : Nat} {o : Option (Nat × Nat)} {B : List Int} (A L0 : Own) (hd : RdW bw A L h L0) (a : Addr) (on : Bool) (hrd : ∀ (K : Value → Prop) (t : Tok K), xCell L0 h (some a) 0 K t = K (.bool on)) (ho : okO o B.length) (hl : B.length ≤ 130000)
    (hk : ∀ h' o' B', PH.le h h' → B' = B ++ formN on.toNat → okO o' B'.length → B'.length ≤ B.length + 10 → K (.tuple #[]) (iwO bw o' B' A L) h') :
    Spec Tryz.prog 408 [.pointer (some ⟨bw, 0, none⟩), .pointer (some a)] (iwO bw o B A L) h K := by
  refine x_enter Tryz.func408 rfl (rs := []) rfl rfl mixed (by kernel_rfl) rfl rfl ?_
  refine xanyl (.tk 0 (.tk 1 (.tk 2 (.tk 3 (.tk 4 (.tkl 5 (.or true 6 (.fin) (.nil)))))))) (by kernel_rfl) (by kernel_rfl) L0 (hd _ _ _ (PH.le_refl _)) ?_
  simp -dsimp -implicitDefEqProofs (disch := first | with_reducible assumption | omega) [go_sem]
  refine (hrd _ _).mpr ?_
  simp -dsimp -implicitDefEqProofs (disch := first | with_reducible assumption | omega) [go_sem]
  have hf := form10 (n := on.toNat) (by cases on <;> decide)
  refine wflagG (T := 130) (s := (B, 0)) (by decide) A on ho (by simp only; omega) fun h' o' le k => ?_
  have e : wPut (B, 0) (formN on.toNat) = (B ++ formN on.toNat, 0) := wPut_ok (by omega)
  rw [e] at k ⊢
  have k1 : okO o' (B ++ formN on.toNat).length := k
  have k2 : (B ++ formN on.toNat).length ≤ B.length + 10 := by rw [List.length_append]; omega
  have e : B ++ formN on.toNat = B ++ formN on.toNat := rfl
  refine xkp (hd _ _ _ le) ?_
  exact fin_here (hk h' o' _ le e k1 k2)
theorem iraw_w {bw : Nat} {o : Option (Nat × Nat)} {B : List Int} (A L0 : Own) (hd : RdW bw A L h L0) (a : Addr) (v : Value) (bs : List Int) (hrd : ∀ (K : Value → Prop) (t : Tok K), xCell L0 h (some a) 0 K t = K (v)) (hv : Ints h .u8 v bs) (hb : bs.length ≤ 1000) (ho : okO o B.length) (hl : B.length ≤ 130000)
    (hk : ∀ h' o' B', PH.le h h' → B' = B ++ rawN bs → okO o' B'.length → B'.length ≤ B.length + (bs.length + 10) → K (.tuple #[]) (iwO bw o' B' A L) h') :
    Spec Tryz.prog 412 [.pointer (some ⟨bw, 0, none⟩), .pointer (some a)] (iwO bw o B A L) h K := by
  refine x_enter Tryz.func412 rfl (rs := []) rfl rfl mixed (by kernel_rfl) rfl rfl ?_
  refine xanyl (.tk 0 (.tk 1 (.tk 2 (.tk 3 (.tk 4 (.tkl 5 (.or true 6 (.fin) (.nil)))))))) (by kernel_rfl) (by kernel_rfl) L0 (hd _ _ _ (PH.le_refl _)) ?_
  simp -dsimp -implicitDefEqProofs (disch := first | with_reducible assumption | omega) [go_sem]
  refine (hrd _ _).mpr ?_
  simp -dsimp -implicitDefEqProofs (disch := first | with_reducible assumption | omega) [go_sem]
  have hf := form10 (n := bs.length) (by omega)
  refine wrawG (T := 130) (s := (B, 0)) (by decide) A v hv (by omega) ho (by simp only; omega) fun h' o' le k => ?_
  have hr : (rawN bs).length ≤ bs.length + 10 := by simp only [rawN, List.length_append]; omega
  have e : wPut (B, 0) (rawN bs) = (B ++ rawN bs, 0) := wPut_ok (by omega)
  rw [e] at k ⊢
  have k1 : okO o' (B ++ rawN bs).length := k
  have k2 : (B ++ rawN bs).length ≤ B.length + (bs.length + 10) := by rw [List.length_append]; omega
  have e : B ++ rawN bs = B ++ rawN bs := rfl
  refine xkp (hd _ _ _ le) ?_
  exact fin_here (hk h' o' _ le e k1 k2)
theorem icount_w {bw : Nat} {o : Option (Nat × Nat)} {B : List Int} (A : Own) (n : Nat) (hn : n ≤ 1000000) (ho : okO o B.length) (hl : B.length ≤ 130000)
    (hk : ∀ h' o' B', PH.le h h' → B' = B ++ formN n → okO o' B'.length → B'.length ≤ B.length + 10 → K (.int .i64 n) (iwO bw o' B' A L) h') :
    Spec Tryz.prog 407 [.pointer (some ⟨bw, 0, none⟩), .int .i64 n] (iwO bw o B A L) h K := by
  refine x_enter Tryz.func407 rfl (rs := [_]) rfl rfl mixed (by kernel_rfl) rfl rfl ?_
  simp -dsimp -implicitDefEqProofs (disch := first | with_reducible assumption | omega) [go_sem]
  refine wintG_ok (T := 130) (by decide) A n (by omega) (by omega) ho (by omega) fun h' o' B' le e k1 k2 => ?_
  simp -dsimp -implicitDefEqProofs (disch := first | with_reducible assumption | omega) [go_sem]
  exact fin_here (hk h' o' _ le (by simpa using e) k1 k2)
theorem iparams_w {bw : Nat} {o : Option (Nat × Nat)} {B : List Int} (A L0 : Own) (hd : RdW bw A L h L0) (a : Addr) (p : ParD) (ok : ParOk p) (hr : parR p = true) (hrd : ∀ (zz : List Value) (by' : Nat) (K : Value → Prop) (t : Tok K), xLd ⟨24, true, zz, by'⟩ L0 h (some a) K t = K (parV p)) (ho : okO o B.length) (hl : B.length ≤ 100000)
    (hk : ∀ h' o' B', PH.le h h' → B' = B ++ encP p → okO o' B'.length → B'.length ≤ B.length + 240 → K (.tuple #[]) (iwO bw o' B' A L) h') :
    Spec Tryz.prog 411 [.pointer (some ⟨bw, 0, none⟩), .pointer (some a)] (iwO bw o B A L) h K := by
  refine x_enter Tryz.func411 rfl (rs := []) rfl rfl mixed (by kernel_rfl) rfl rfl ?_
  simp -dsimp -implicitDefEqProofs (disch := first | with_reducible assumption | omega) [go_sem]
  refine xanyl (.tk 0 (.tk 1 (.tk 2 (.tk 3 (.tk 4 (.tkl 5 (.or true 6 (.tk 7 (.fin)) (.nil)))))))) (by kernel_rfl) (by kernel_rfl) L0 (hd _ _ _ (PH.le_refl _)) ?_
  simp -dsimp -implicitDefEqProofs (disch := first | with_reducible assumption | omega) [go_sem, ↓hrd]
  refine Spec.apn (pwriteG (T := 130) (by decide) A p ok hr ho hl fun h' o' le k ap nd => ?_)
  obtain ⟨ab, _⟩ := ap
  refine xkp (hd _ _ _ le) ?_
  have hl : (encP p).length ≤ 240 := by
    have h1 := flatN_len (wides p ++ narrows p) (fun z hz => by
      rcases List.mem_append.1 hz with hz | hz
      · have := ok.w z hz; omega
      · have := ok.n z hz; omega)
    have h2 : (wides p ++ narrows p).length = 24 := rfl
    rw [h2] at h1
    exact h1
  simp -dsimp -implicitDefEqProofs (disch := first | with_reducible assumption | omega) [go_sem]
  exact fin_here (hk h' o' _ le rfl k (by rw [List.length_append]; omega))
end Go.X

/- Contracts for lists of deeds: few, Plain, Same of like lists. Conditions: the values read as lists of deeds. -/
import Derived.Test.YtbobjcapmfpmkaaDL
set_option linter.unusedVariables false
set_option linter.unusedSimpArgs false
namespace Go.X
open Go.RowKit Go.Proofs Go.Bl
variable {L : Own} {h : PH} {K : PK}
def fewL (l : List DeedD) (m : Int) : Bool := l.all (fun d => decide ((d.bits.length : Int) ≤ 200)) && decide ((l.length : Int) ≤ m)
theorem fewL_iff {l : List DeedD} {m : Int} : fewL l m = true ↔ (∀ d ∈ l, (d.bits.length : Int) ≤ 200) ∧ (l.length : Int) ≤ m := by simp [fewL]
theorem mem_gq {l : List QD} {k : Nat} (hk : k < l.length) : (gq l k).2 ∈ dl l := by rw [gq_lt hk]; exact List.mem_map_of_mem (List.getElem_mem hk)
theorem of_gq {l : List QD} {p : DeedD → Prop} (hp : ∀ j, j < l.length → p (gq l j).2) : ∀ d ∈ dl l, p d := by
  intro d hd
  obtain ⟨q, hq, rfl⟩ := List.mem_map.1 hd
  obtain ⟨i, hi, rfl⟩ := List.getElem_of_mem hq
  have := hp i hi
  rwa [gq_lt hi] at this
theorem dl_gq {l : List QD} {k : Nat} (hk : k < l.length) : (dl l)[k]? = some (gq l k).2 := by rw [gq_lt hk]; simp [dl, hk]
theorem few9_any {l : List QD} (v : Value) (m : Int) (hd0 : Deeds h v l) (hk : K (.bool (fewL (dl l) m)) L h) : Spec Try.prog 58 [v, .int .i64 m] L h K := by
  obtain ⟨a, c, rfl, hc, hl, _, hd⟩ := hd0.open
  refine x_enter Try.func58 rfl (rs := [_]) rfl rfl mixed (by kernel_rfl) rfl rfl ?_
  simp -dsimp -implicitDefEqProofs (disch := first | with_reducible assumption | omega) [go_sem]
  refine xloop' (0 : Nat) (fun k => k ≤ l.length ∧ ∀ j, j < k → ((gq l j).2.bits.length : Int) ≤ 200) (fun k => [(9, .int .i64 k), (8, .int .i64 l.length), (7, .slice a l.length c), (1, .int .i64 m), (0, .slice a l.length c)]) (fun k => l.length - k) ?_ ?_ ?_
  · exact ⟨Nat.zero_le _, fun j hj => by omega⟩
  · simp [Ent, List.lookup, xEnv]
  rintro k ⟨k1, k2⟩
  try simp only at k1 k2 ⊢
  by_cases c1 : k < l.length
  · have hi := (hd.at c1).i
    obtain ⟨x1, y1, hv, hy, hly, _⟩ := hi.open
    simp -dsimp -implicitDefEqProofs (disch := first | with_reducible assumption | omega) [go_sem, ↓idxD hd]
    refine xnew fun b1 n_b1 h_b1 => ?_
    try simp only [Apart] at n_b1
    simp -dsimp -implicitDefEqProofs (disch := first | with_reducible assumption | omega) [go_sem, hv]
    by_cases c2 : ((gq l k).2.bits.length : Int) > 200
    · simp -dsimp -implicitDefEqProofs (disch := first | with_reducible assumption | omega) [go_sem]
      have hf : fewL (dl l) m = false := by
        cases hh : fewL (dl l) m with
        | false => rfl
        | true => have := (fewL_iff.1 hh).1 _ (mem_gq c1); omega
      rw [hf] at hk
      exact fin_tail (fin_here hk)
    · simp -dsimp -implicitDefEqProofs (disch := first | with_reducible assumption | omega) [go_sem]
      refine ⟨k + 1, ⟨by omega, fun j hj => ?_⟩, by omega, by simp [Ent, List.lookup], Drop.tail _ _ _⟩
      by_cases e : j = k
      · subst e; omega
      · exact k2 j (by omega)
  · simp -dsimp -implicitDefEqProofs (disch := first | with_reducible assumption | omega) [go_sem]
    have hf : fewL (dl l) m = decide ((l.length : Int) ≤ m) := by
      have hall : ∀ d ∈ dl l, (d.bits.length : Int) ≤ 200 := of_gq fun j hj => k2 j (by omega)
      have : (dl l).all (fun d => decide ((d.bits.length : Int) ≤ 200)) = true := by simpa using hall
      rw [fewL, this, dl_len]
      rfl
    rw [hf] at hk
    exact fin_here hk
set_option maxRecDepth 20000 in
theorem same9_like {l1 l2 : List QD} (v u : Value) (h1 : Deeds h v l1) (h2 : Deeds h u l2) (he : dl l1 = dl l2) (hk : K (.bool true) L h) : Spec Try.prog 61 [v, u] L h K := by
  obtain ⟨a, c, rfl, hc, hl, _, hd⟩ := h1.open
  obtain ⟨b, c', rfl, hc', hl', _, hd'⟩ := h2.open
  have hlen : l1.length = l2.length := by rw [← dl_len l1, ← dl_len l2, he]
  refine x_enter Try.func61 rfl (rs := [_]) rfl rfl mixed (by kernel_rfl) rfl rfl ?_
  simp -dsimp -implicitDefEqProofs (disch := first | with_reducible assumption | omega) [go_sem]
  refine xloop' (0 : Nat) (fun k => k ≤ l1.length) (fun k => [(5, .int .i64 k), (0, .slice a l1.length c), (1, .slice b l2.length c')]) (fun k => l1.length - k) ?_ ?_ ?_
  · exact Nat.zero_le _
  · simp [Ent, List.lookup, xEnv]
  rintro k k1
  by_cases c1 : k < l1.length
  · have hi := (hd.at c1).i
    have hi' := (hd'.at (i := k) (by omega)).i
    have hg : (gq l2 k).2 = (gq l1 k).2 := by
      have e1 : (dl l1)[k]? = (dl l2)[k]? := by rw [he]
      simp only [dl, List.getElem?_map, List.getElem?_eq_getElem c1, List.getElem?_eq_getElem (show k < l2.length by omega)] at e1
      rw [gq_lt c1, gq_lt (by omega)]
      exact (Option.some.inj e1).symm
    rw [hg] at hi'
    obtain ⟨x1, y1, hv, _⟩ := hi.open
    obtain ⟨x2, y2, hv', _⟩ := hi'.open
    simp -dsimp -implicitDefEqProofs (disch := first | with_reducible assumption | omega) [go_sem]
    refine xdraw (by kernel_rfl) rfl ?_
    simp -dsimp -implicitDefEqProofs (disch := first | with_reducible assumption | omega) [go_sem, ↓idxD hd, ↓idxD hd', hg]
    refine xdcall _ (likeD_any (gq l1 k).2 _ _ hi hi' ⟨rfl, rfl, rfl⟩) ?_
    simp -dsimp -implicitDefEqProofs (disch := first | with_reducible assumption | omega) [go_sem]
    exact ⟨k + 1, by omega, by omega, by simp [Ent, List.lookup], Drop.refl _ _⟩
  · simp -dsimp -implicitDefEqProofs (disch := first | with_reducible assumption | omega) [go_sem]
    exact fin_here hk
set_option maxHeartbeats 1600000 in
set_option maxRecDepth 20000 in
theorem plain9_any {l : List QD} (v : Value) (hd0 : Deeds h v l) (hn : l.length ≤ 100000) (hk : ∀ h' r, PH.le h h' → Deeds h' r l → K r L h') : Spec Try.prog 62 [v] L h K := by
  obtain ⟨a, c, rfl, hc, hl, _, hd⟩ := hd0.open
  refine x_enter Try.func62 rfl (rs := [_]) rfl rfl mixed (by kernel_rfl) rfl rfl ?_
  simp -dsimp -implicitDefEqProofs (disch := first | with_reducible assumption | omega) [go_sem]
  refine xloop (γ := Nat × Option (Nat × Nat)) (0, none) (fun s => s.1 ≤ l.length ∧ okO s.2 s.1 ∧ apO s.2 L h) (fun s => [(8, .int .i64 s.1), (7, .int .i64 l.length), (6, .slice a l.length c), (3, ovs s.2 s.1)])
    (fun s => oent 95 34 s.2 (cellsL (l.take s.1)) L) (fun _ => h) (fun s => l.length - s.1) ?_ ?_ ?_ ?_
  · exact ⟨Nat.zero_le _, rfl, trivial⟩
  · simp [Ent, List.lookup, xEnv, ovs]
  · exact Drop.refl _ _
  rintro ⟨k, o⟩ ⟨k1, k2, k3⟩
  simp only at k1 k2 k3 ⊢
  have hlt : (l.take k).length = k := by simp [k1]
  by_cases c1 : k < l.length
  · have hi := (hd.at c1).i
    obtain ⟨x1, y1, hv, hy, hly, _⟩ := hi.open
    have et : l.take (k + 1) = l.take k ++ [gq l k] := by rw [gq_lt c1, List.take_succ_eq_append_getElem c1]
    simp -dsimp -implicitDefEqProofs (disch := first | with_reducible assumption | omega) [go_sem, ↓idxD hd]
    refine xnew fun b1 n_b1 h_b1 => ?_
    try simp only [Apart] at n_b1
    simp -dsimp -implicitDefEqProofs (disch := first | with_reducible assumption | omega) [go_sem, hv]
    rw [hv] at hi
    refine plain8_any (d := (gq l k).2) _ hi ?_
    simp -dsimp -implicitDefEqProofs (disch := first | with_reducible assumption | omega) [go_sem]
    refine xnew fun b2 n_b2 h_b2 => ?_
    try simp only [Apart] at n_b2
    simp -dsimp -implicitDefEqProofs (disch := first | with_reducible assumption | omega) [go_sem]
    refine xappend (t := 112) (e := 95) (sz := 34) (bytes := 288) (by kernel_rfl) tI_95 rfl rfl rfl rfl (by decide) [_, _] L o k (cellsL (l.take k)) k2 (by rw [cellsL_len, hlt]) (Src.own List.mem_cons_self) (m := 1) (news := qC (.slice x1 (gq l k).2.bits.length y1, (gq l k).2)) rfl (qC_one _ rfl) (by simp [maxLen]; omega) (by omega) ?_
    intro o' j1 j2 j3
    simp -dsimp -implicitDefEqProofs (disch := first | with_reducible assumption | omega) [go_sem]
    refine ⟨k + 1, o', ⟨by omega, j1, apO_tail (apO_tail j2)⟩, by omega, by simp [Ent, List.lookup], ?_⟩
    rw [et, cellsL_app, cellsL_one, show gq l k = (.slice x1 (gq l k).2.bits.length y1, (gq l k).2) from Prod.ext hv rfl]
    exact (Drop.tail _ _ _).trans (Drop.tail _ _ _)
  · have hkl : k = l.length := by omega
    subst hkl
    simp -dsimp -implicitDefEqProofs (disch := first | with_reducible assumption | omega) [go_sem]
    exact fin_pub (n := l.length) k2 (cellsL_len l) (by omega) k3 fun h' le sl => fin_here (hk h' _ le ⟨sl, fun q hq => (hd.d q hq).up le⟩)
end Go.X

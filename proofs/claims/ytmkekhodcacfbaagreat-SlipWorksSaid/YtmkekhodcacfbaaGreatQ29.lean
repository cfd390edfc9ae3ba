/- Lemmas and contracts for a statement about the given program. Conditions: as each says. -/
import Derived.Test.YtmkekhodcacfbaaGreatQ26
import Derived.Test.YtmkekhodcacfbaaGreatQ28
set_option linter.unusedVariables false
set_option linter.unusedSimpArgs false
set_option maxHeartbeats 12800000
set_option maxRecDepth 20000
namespace Go.X
open Go.RowKit Go.Proofs Go.Bl
variable {L : Own} {h : PH} {K : PK}
def sdC (m : MemD) : List Value := [.int .u64 m.bal, .int .u64 m.eff, .int .u64 m.score, .int .i64 m.streak]
theorem sdC_len (m : MemD) : (sdC m).length = 4 := rfl
theorem wt_b {p : ParD} (hr : parR p = true) {m : MemD} (mo : MemOk m) : 0 ≤ weightP p m ∧ weightP p m ≤ 71468255805440000 := by
 have hs := parR_streak hr
 have hb := parR_big hr
 have ue := mo.u m.eff (by simp)
 unfold weightP
 split
 ·decide
 ·have s0 : 0 ≤ min (max m.streak 0) p.streak ∧ min (max m.streak 0) p.streak ≤ 64 := by omega
  generalize min (max m.streak 0) p.streak = s at *
  have b1 := Int.mul_nonneg hs.2.2.1 s0.1
  have b2 : p.boost * s ≤ 1000 * 64 := Int.mul_le_mul hs.2.2.2.1 s0.2 s0.1 (by decide)
  have b3 := Int.mul_nonneg ue.1 (show 0 ≤ 1000 + p.boost * s by omega)
  have b4 : m.eff * (1000 + p.boost * s) ≤ 1099511627776 * 65000 := Int.mul_le_mul (by omega) (by omega) (by omega) (by decide)
  exact ⟨b3, by omega⟩
theorem pweight_any (p : ParD) (ok : ParOk p) (hr : parR p = true) (m : MemD) (mo : MemOk m) (hk : K (.int .u64 (weightP p m)) L h) : Spec Tryz.prog 222 [parV p, stdV m] L h K := by
 have hs := parR_streak hr
 have ue := mo.u m.eff (by simp)
 have wb := wt_b hr mo
 refine x_enter Tryz.func222 rfl (rs := [_]) rfl rfl mixed (by kernel_rfl) rfl rfl ?_
 simp -dsimp -implicitDefEqProofs (disch := first|with_reducible assumption|omega) [go_sem]
 refine xnew fun b1 n_b1 h_b1 => ?_
 try simp only [Apart] at n_b1
 simp -dsimp -implicitDefEqProofs (disch := first|with_reducible assumption|omega) [go_sem]
 refine xnew fun b2 n_b2 h_b2 => ?_
 try simp only [Apart] at n_b2
 by_cases c : p.maxEff < m.eff
 ·rw [weightP, if_pos c] at hk
  simp -dsimp -implicitDefEqProofs (disch := first|with_reducible assumption|omega) [go_sem]
  exact fin_tail (fin_tail (fin_here hk))
 ·rw [weightP, if_neg c] at hk wb
  have s0 : 0 ≤ min (max m.streak 0) p.streak ∧ min (max m.streak 0) p.streak ≤ 64 := by omega
  have b1 := Int.mul_nonneg hs.2.2.1 s0.1
  have b2 : p.boost * min (max m.streak 0) p.streak ≤ 1000 * 64 := Int.mul_le_mul hs.2.2.2.1 s0.2 s0.1 (by decide)
  simp -dsimp -implicitDefEqProofs (disch := first|with_reducible assumption|omega) [go_sem, xBuiltin_max]
  exact fin_tail (fin_tail (fin_here hk))
theorem weight14_any (p : ParD) (ok : ParOk p) (hr : parR p = true) (m : MemD) (mo : MemOk m) (hk : K (.int .u64 (weightP p m)) L h) : Spec Tryz.prog 139 [parV p, stdV m] L h K := by
 have hs := parR_streak hr
 have ue := mo.u m.eff (by simp)
 have wb := wt_b hr mo
 have hbig := parR_big hr
 refine x_enter Tryz.func139 rfl (rs := [_]) rfl rfl mixed (by kernel_rfl) rfl rfl ?_
 simp -dsimp -implicitDefEqProofs (disch := first|with_reducible assumption|omega) [go_sem]
 refine xnew fun b1 n_b1 h_b1 => ?_
 try simp only [Apart] at n_b1
 simp -dsimp -implicitDefEqProofs (disch := first|with_reducible assumption|omega) [go_sem]
 refine xnew fun b2 n_b2 h_b2 => ?_
 try simp only [Apart] at n_b2
 by_cases c : p.maxEff < m.eff
 ·rw [weightP, if_pos c] at hk
  simp -dsimp -implicitDefEqProofs (disch := first|with_reducible assumption|omega) [go_sem]
  exact fin_tail (fin_tail (fin_here hk))
 ·rw [weightP, if_neg c] at hk wb
  have s0 : 0 ≤ min (max m.streak 0) p.streak ∧ min (max m.streak 0) p.streak ≤ 64 := by omega
  obtain ⟨s, hs'⟩ : ∃ s : Nat, (s : Int) = min (max m.streak 0) p.streak := ⟨_, Int.toNat_of_nonneg s0.1⟩
  rw [← hs'] at hk wb s0
  have m1 := Int.mul_nonneg hs.2.2.1 ue.1
  have m2 : p.boost * m.eff ≤ 1000 * 1099511627776 := Int.mul_le_mul hs.2.2.2.1 (by omega) ue.1 (by decide)
  obtain ⟨z, hz⟩ : ∃ z, z = p.boost * m.eff := ⟨_, rfl⟩
  have he : m.eff * (1000 + p.boost * s) = 1000 * m.eff + s * z := by rw [hz]; grind
  rw [he] at hk wb
  rw [← hz] at m1 m2
  simp -dsimp -implicitDefEqProofs (disch := first|with_reducible assumption|omega) [go_sem]
  refine xloop' (0 : Nat) (fun k => k ≤ s) (fun k => [(6, .int .i64 k), (5, .int .u64 (1000 * m.eff + k * z)), (2, .pointer (some ⟨b1, 0, none⟩)), (3, .pointer (some ⟨b2, 0, none⟩))]) (fun k => s - k) ?_ ?_ ?_
  ·exact Nat.zero_le _
  ·simp [Ent, List.lookup]
  intro k hk1
  have kz0 := Int.mul_nonneg (show (0 : Int) ≤ k by omega) m1
  have kz1 : (k : Int) * z ≤ 64 * (1000 * 1099511627776) := Int.mul_le_mul (by omega) m2 m1 (by decide)
  by_cases c1 : k < s
  ·have e2 : ((k : Int) + 1) * z = k * z + z := by rw [Int.add_mul]; simp
   by_cases c2 : (k : Int) < m.streak
   ·simp -dsimp -implicitDefEqProofs (disch := first|with_reducible assumption|omega) [go_sem, ← hz]
    exact ⟨k + 1, by omega, by omega, by simp [Ent, List.lookup, e2]; omega, Drop.refl _ _⟩
   ·omega
  ·have hkl : k = s := by omega
   subst hkl
   by_cases c2 : (k : Int) < m.streak
   ·simp -dsimp -implicitDefEqProofs (disch := first|with_reducible assumption|omega) [go_sem, ← hz]
    exact fin_tail (fin_tail (fin_here hk))
   ·simp -dsimp -implicitDefEqProofs (disch := first|with_reducible assumption|omega) [go_sem, ← hz]
    exact fin_tail (fin_tail (fin_here hk))
theorem tot_le {zs : List Int} {B : Int} (hz : ∀ i, at0 zs i ≤ B) : ∀ k : Nat, sumK zs k ≤ k * B
 | 0 => by simp [sumK]
 | k + 1 => by
  have := tot_le hz k
  have := hz k
  rw [sumK, Int.natCast_add, Int.add_mul]
  simp
  omega
theorem ws_who {p : ParD} (hr : parR p = true) {l : List MemD} (hm : ∀ x ∈ l, MemOk x) (hn : l.length ≤ 128) : whoE (l.map (weightP p)) = 0 := by
 have hz : ∀ i, at0 (l.map (weightP p)) i ≤ 71468255805440000 := fun i => by
  by_cases c : i < (l.map (weightP p)).length
  ·rw [← at0_lt c, List.getElem_map]
   exact (wt_b hr (hm _ (List.getElem_mem _))).2
  ·rw [at0_ge (by omega)]; decide
 have h1 := tot_le hz (l.map (weightP p)).length
 rw [whoE, if_pos (by rw [List.length_map]; omega), if_pos]
 rw [tot]
 rw [List.length_map] at h1 ⊢
 omega
theorem pz1_any (p : ParD) (ok : ParOk p) (hr : parR p = true) (m : MemD) (mo : MemOk m) (b1 b7 : Nat) (o : Option (Nat × Nat)) (xs : List Value) (n17 : b1 ≠ b7) (ho : apB o b1) (hb : h b1 = noC)
  (hk : K (.int .u64 (weightP p m)) (⟨b7, 89, sdC m, 4⟩ :: oent 22 1 o xs (⟨b1, 24, parC p, 24⟩ :: L)) h) :
  Spec Tryz.prog 221 [stdV m, .pointer (some ⟨b1, 0, none⟩)] (⟨b7, 89, sdC m, 4⟩ :: oent 22 1 o xs (⟨b1, 24, parC p, 24⟩ :: L)) h K := by
 simp only [sdC] at hk ⊢
 refine x_enter Tryz.func221 rfl (rs := [_]) rfl rfl mixed (by kernel_rfl) rfl rfl ?_
 simp -dsimp -implicitDefEqProofs (disch := first|with_reducible assumption|omega) [go_sem]
 refine xnew fun b2 n_b2 h_b2 => ?_
 try simp only [Apart] at n_b2
 have n2 := apart_oent n_b2.2
 simp only [Apart] at n2
 simp -dsimp -implicitDefEqProofs (disch := first|with_reducible assumption|omega) [go_sem, xFind_oent ho]
 refine pweight_any p ok hr m mo ?_
 simp -dsimp -implicitDefEqProofs (disch := first|with_reducible assumption|omega) [go_sem]
 exact fin_tail (fin_here hk)
theorem peach_any {l : List MemD} (p : ParD) (ok : ParOk p) (hr : parR p = true) (v : Value) (hd0 : Recs sdC 4 h v l) (hm : ∀ x ∈ l, MemOk x) (hn : l.length ≤ 100000) (b1 : Nat)
  (hk : ∀ h' r, PH.le h h' → Ints h' .u64 r (l.map (weightP p)) → K r (⟨b1, 24, parC p, 24⟩ :: L) h') :
  Spec Tryz.prog 220 [.func (.func 221) #[] #[.pointer (some ⟨b1, 0, none⟩)], v] (⟨b1, 24, parC p, 24⟩ :: L) h K := by
 obtain ⟨a, c, rfl, hc, hl, _, hd⟩ := hd0.open
 refine x_enterA Tryz.func220 rfl (rs := [_]) rfl rfl mixed (by kernel_rfl) rfl rfl fun ap nd => ?_
 simp only [Ap] at ap
 have hb1 := ap.1
 clear ap nd
 simp -dsimp -implicitDefEqProofs (disch := first|with_reducible assumption|omega) [go_sem]
 refine xloop (γ := Nat × Option (Nat × Nat)) (0, none) (fun s => s.1 ≤ l.length ∧ okO s.2 s.1 ∧ apO s.2 (⟨b1, 24, parC p, 24⟩ :: L) h) (fun s => [(10, .int .i64 s.1), (9, .int .i64 l.length), (8, .slice a l.length c), (5, ovs s.2 s.1), (0, .func (.func 221) #[] #[.pointer (some ⟨b1, 0, none⟩)])])
  (fun s => oent 22 1 s.2 (colU (weightP p) l s.1) (⟨b1, 24, parC p, 24⟩ :: L)) (fun _ => h) (fun s => l.length - s.1) ?_ ?_ ?_ ?_
 ·exact ⟨Nat.zero_le _, rfl, trivial⟩
 ·simp [Ent, List.lookup, xEnv, ovs]
 ·exact Drop.refl _ _
 rintro ⟨k, o⟩ ⟨k1, k2, k3⟩
 simp only at k1 k2 k3 ⊢
 by_cases c1 : k < l.length
 ·have hmem : gr zeroM l k ∈ l := by rw [gr_lt c1]; exact List.getElem_mem c1
  have m1 : apB o b1 := k3.head
  simp -dsimp -implicitDefEqProofs (disch := first|with_reducible assumption|omega) [go_sem, ↓idxR zeroM (by decide) hd, sdC]
  refine xnew fun b7 n_b7 h_b7 => ?_
  try simp only [Apart] at n_b7
  have n7 := apart_oent n_b7
  simp only [Apart] at n7
  simp -dsimp -implicitDefEqProofs (disch := first|with_reducible assumption|omega) [go_sem, sdC]
  refine pz1_any p ok hr (gr zeroM l k) (hm _ hmem) b1 b7 o _ n7.1 m1 hb1 ?_
  simp only [sdC]
  simp -dsimp -implicitDefEqProofs (disch := first|with_reducible assumption|omega) [go_sem]
  refine xnew fun b8 n_b8 h_b8 => ?_
  try simp only [Apart] at n_b8
  simp -dsimp -implicitDefEqProofs (disch := first|with_reducible assumption|omega) [go_sem]
  refine xappend (t := 25) (e := 22) (sz := 1) (bytes := 8) (by kernel_rfl) tI_22 rfl rfl rfl rfl (by decide) [_, _] _ o k (colU (weightP p) l k) k2 (colU_len k1) (Src.own List.mem_cons_self) (m := 1) (news := [.int .u64 (weightP p (gr zeroM l k))]) rfl (by intro u hu; simp only [List.mem_singleton] at hu; subst hu; rfl) (by simp [maxLen]; omega) (by omega) ?_
  intro o' j1 j2 j3
  simp -dsimp -implicitDefEqProofs (disch := first|with_reducible assumption|omega) [go_sem]
  refine ⟨k + 1, o', ⟨by omega, j1, apO_tail (apO_tail j2)⟩, by omega, by simp [Ent, List.lookup], ?_⟩
  rw [colU_succ zeroM c1]
  exact (Drop.tail _ _ _).trans (Drop.tail _ _ _)
 ·have hkl : k = l.length := by omega
  subst hkl
  simp -dsimp -implicitDefEqProofs (disch := first|with_reducible assumption|omega) [go_sem]
  exact fin_pub (n := l.length) k2 (colU_len (Nat.le_refl _)) (by omega) k3 fun h' le sl => fin_here (hk h' _ le (colU_ints sl fun x hx => by have := wt_b hr (hm x hx); omega))
def prizeL (p : ParD) (n : Int) (l : List MemD) : List Int := splitL n (tot (l.map (weightP p))) (l.map (weightP p))
theorem prizeL_len (p : ParD) (n : Int) (l : List MemD) : (prizeL p n l).length = l.length := by simp [prizeL, splitL]
theorem prizeL_at {p : ParD} (hr : parR p = true) {n : Int} (hn : 0 ≤ n) {l : List MemD} (hm : ∀ x ∈ l, MemOk x) (i : Nat) : 0 ≤ at0 (prizeL p n l) i ∧ at0 (prizeL p n l) i ≤ n := by
 have h0 : ∀ i, 0 ≤ at0 (l.map (weightP p)) i := fun i => by
  by_cases c : i < (l.map (weightP p)).length
  ·rw [← at0_lt c, List.getElem_map]
   exact (wt_b hr (hm _ (List.getElem_mem _))).1
  ·rw [at0_ge (by omega)]; decide
 by_cases c : i < (l.map (weightP p)).length
 ·unfold prizeL splitL
  rw [at0_mapI _ _ c]
  exact part4_le hn (h0 i) (at0_le_tot h0 i)
 ·rw [at0_ge (by rw [prizeL_len]; simpa using c)]
  omega
theorem prizeL_ints {p : ParD} (hr : parR p = true) {n : Int} (hn : 0 ≤ n ∧ n ≤ 18446744073709551615) {l : List MemD} (hm : ∀ x ∈ l, MemOk x) {h : PH} {v : Value} (sl : Sl h v l.length 1 ((prizeL p n l).map (.int .u64))) : Ints h .u64 v (prizeL p n l) := by
 refine ⟨by rw [prizeL_len]; exact sl, fun z hz => ?_⟩
 obtain ⟨i, hi, rfl⟩ := List.mem_iff_getElem.1 hz
 have := prizeL_at hr hn.1 hm i
 rw [at0_lt hi]
 rw [show IntKind.u64.min = 0 by decide, show IntKind.u64.max = 18446744073709551615 by decide]
 omega
theorem prizes_any {l : List MemD} (p : ParD) (ok : ParOk p) (hr : parR p = true) (v : Value) (hd0 : Recs sdC 4 h v l) (hm : ∀ x ∈ l, MemOk x) (hn : l.length ≤ 128) (n : Int) (hb : 0 ≤ n ∧ n ≤ 18446744073709551615)
  (hk : ∀ h' r, PH.le h h' → Ints h' .u64 r (prizeL p n l) → K (.tuple #[r, .int .u64 (n - tot (prizeL p n l)), .int .i64 0]) L h') :
  Spec Tryz.prog 128 [parV p, .int .u64 n, v] L h K := by
 obtain ⟨a, c, rfl, hc, hl, _, hd⟩ := hd0.open
 have hw := ws_who hr hm hn
 refine x_enter Tryz.func128 rfl (rs := [_, _, _]) rfl rfl mixed (by kernel_rfl) rfl rfl ?_
 simp -dsimp -implicitDefEqProofs (disch := first|with_reducible assumption|omega) [go_sem]
 refine xnew fun b1 n_b1 h_b1 => ?_
 try simp only [Apart] at n_b1
 simp -dsimp -implicitDefEqProofs (disch := first|with_reducible assumption|omega) [go_sem]
 refine pcheck0 p ok ?_
 rw [hr]
 simp -dsimp -implicitDefEqProofs (disch := first|with_reducible assumption|omega) [go_sem]
 refine Spec.ap (peach_any p ok hr _ hd0 hm (by omega) b1 fun h1 r1 l1 i1 ap => ?_)
 simp only [Ap] at ap
 obtain ⟨p1, _⟩ := ap
 obtain ⟨ra, rc, rfl, _⟩ := i1.open
 rw [List.length_map] at i1
 simp -dsimp -implicitDefEqProofs (disch := first|with_reducible assumption|omega) [go_sem]
 refine split_any n hb _ i1 (fun e => absurd hw e) fun _ o j1 j2 => ?_
 obtain ⟨x, y, e, hxy⟩ := ovs_open j1
 rw [e]
 simp -dsimp -implicitDefEqProofs (disch := first|with_reducible assumption|omega) [go_sem]
 have hlen : (l.map (weightP p)).length = l.length := List.length_map _
 refine fin_pub (n := (l.map (weightP p)).length) j1 (by simp [splitL]) (by omega) j2 fun h' le sl => fin_tail (fin_here ?_)
 rw [e, hlen] at sl
 exact hk h' _ (l1.trans le) (prizeL_ints hr hb hm sl)
theorem prizes14_any {l : List MemD} (p : ParD) (ok : ParOk p) (hr : parR p = true) (v : Value) (hd0 : Recs sdC 4 h v l) (hm : ∀ x ∈ l, MemOk x) (hn : l.length ≤ 128) (n : Int) (hb : 0 ≤ n ∧ n ≤ 18446744073709551615)
  (hk : ∀ h' r, PH.le h h' → Ints h' .u64 r (prizeL p n l) → K (.tuple #[r, .int .u64 (n - tot (prizeL p n l))]) L h') :
  Spec Tryz.prog 45 [parV p, .int .u64 n, v] L h K := by
 obtain ⟨a, c, rfl, hc, hl, _, hd⟩ := hd0.open
 have hw := ws_who hr hm hn
 refine x_enter Tryz.func45 rfl (rs := [_, _]) rfl rfl mixed (by kernel_rfl) rfl rfl ?_
 simp -dsimp -implicitDefEqProofs (disch := first|with_reducible assumption|omega) [go_sem]
 refine xnew fun b1 n_b1 h_b1 => ?_
 try simp only [Apart] at n_b1
 simp -dsimp -implicitDefEqProofs (disch := first|with_reducible assumption|omega) [go_sem]
 refine xloop (γ := Nat × Option (Nat × Nat)) (0, none) (fun s => s.1 ≤ l.length ∧ okO s.2 s.1 ∧ apO s.2 (⟨b1, 48, parC p, 24⟩ :: L) h) (fun s => [(9, .int .i64 s.1), (8, ovs s.2 s.1), (3, .pointer (some ⟨b1, 0, none⟩)), (2, .slice a l.length c), (1, .int .u64 n)])
  (fun s => oent 22 1 s.2 (colU (weightP p) l s.1) (⟨b1, 48, parC p, 24⟩ :: L)) (fun _ => h) (fun s => l.length - s.1) ?_ ?_ ?_ ?_
 ·exact ⟨Nat.zero_le _, rfl, trivial⟩
 ·simp [Ent, List.lookup, xEnv, ovs]
 ·exact Drop.refl _ _
 rintro ⟨k, o⟩ ⟨k1, k2, k3⟩
 simp only at k1 k2 k3 ⊢
 by_cases c1 : k < l.length
 ·have hmem : gr zeroM l k ∈ l := by rw [gr_lt c1]; exact List.getElem_mem c1
  have m1 : apB o b1 := k3.head
  simp -dsimp -implicitDefEqProofs (disch := first|with_reducible assumption|omega) [go_sem]
  refine xanyl (.tk 0 (.tk 2 (.tk 3 (.tk 4 (.tkl 1 (.tkl 5 (.or true 6 (.or true 7 (.or true 8 (.tk 9 (.fin)) (.nil)) (.nil)) (.nil)))))))) (by kernel_rfl) (by kernel_rfl) [⟨b1, 48, parC p, 24⟩] ((Drop.oent _ _ _ _ _ _).trans (Drop.mem (by simp))) ?_
  simp -dsimp -implicitDefEqProofs (disch := first|with_reducible assumption|omega) [go_sem, ↓idxR zeroM (by decide) hd, sdC, xFind_oent m1]
  refine weight14_any p ok hr (gr zeroM l k) (hm _ hmem) ?_
  first
  | refine xkp ((Drop.oent _ _ _ _ _ _).trans (Drop.mem (by simp))) ?_
  | skip
  simp -dsimp -implicitDefEqProofs (disch := first|with_reducible assumption|omega) [go_sem]
  refine xnew fun b8 n_b8 h_b8 => ?_
  try simp only [Apart] at n_b8
  simp -dsimp -implicitDefEqProofs (disch := first|with_reducible assumption|omega) [go_sem]
  refine xkp ((Drop.tail _ _ _).trans ((Drop.oent _ _ _ _ _ _).trans (Drop.mem (by simp)))) ?_
  simp -dsimp -implicitDefEqProofs (disch := first|with_reducible assumption|omega) [go_sem]
  refine xappend (t := 25) (e := 22) (sz := 1) (bytes := 8) (by kernel_rfl) tI_22 rfl rfl rfl rfl (by decide) [_] _ o k (colU (weightP p) l k) k2 (colU_len k1) (Src.own List.mem_cons_self) (m := 1) (news := [.int .u64 (weightP p (gr zeroM l k))]) rfl (by intro u hu; simp only [List.mem_singleton] at hu; subst hu; rfl) (by simp [maxLen]; omega) (by omega) ?_
  intro o' j1 j2 j3
  first
  | refine xkp ((Drop.tail _ _ _).trans ((Drop.oent _ _ _ _ _ _).trans (Drop.mem (by simp)))) ?_
  | skip
  simp -dsimp -implicitDefEqProofs (disch := first|with_reducible assumption|omega) [go_sem]
  refine ⟨k + 1, o', ⟨by omega, j1, apO_tail j2⟩, by omega, by simp [Ent, List.lookup], ?_⟩
  rw [colU_succ zeroM c1]
  exact Drop.tail _ _ _
 ·have hkl : k = l.length := by omega
  subst hkl
  simp -dsimp -implicitDefEqProofs (disch := first|with_reducible assumption|omega) [go_sem]
  refine call_pub (n := l.length) k2 (colU_len (Nat.le_refl _)) (by omega) k3 fun h1 l1 sl => ?_
  have i1 := colU_ints sl fun x hx => by have := wt_b hr (hm x hx); omega
  obtain ⟨x1, y1, e1, _⟩ := ovs_open k2
  rw [e1] at i1 ⊢
  refine rsplit_any n hb _ i1 hw fun h2 o2 l2 j1 j2 => ?_
  obtain ⟨x, y, e, hxy⟩ := ovs_open j1
  rw [e]
  simp -dsimp -implicitDefEqProofs (disch := first|with_reducible assumption|omega) [go_sem]
  have hlen : (l.map (weightP p)).length = l.length := List.length_map _
  refine fin_pub (n := (l.map (weightP p)).length) j1 (by simp [splitL]) (by omega) j2 fun h' le sl => fin_tail (fin_here ?_)
  rw [e, hlen] at sl
  have := hk h' _ (l1.trans (l2.trans le)) (prizeL_ints hr hb hm sl)
  first
  | exact this
  | (rw [hlen]; exact this)
end Go.X

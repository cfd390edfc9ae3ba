/- Lemmas and contracts for a statement about the given program. Conditions: as each says. -/
import Derived.Test.YtpgdjcaifeapgaaGreatQ16
import Derived.Test.YtpgdjcaifeapgaaGreatQ18
import Derived.Test.YtpgdjcaifeapgaaGreatQ26
import Derived.Test.YtpgdjcaifeapgaaGreatQ27
import Derived.Test.YtpgdjcaifeapgaaGreatQ30
import Derived.Test.YtpgdjcaifeapgaaGreatQ31
set_option linter.unusedVariables false
set_option linter.unusedSimpArgs false
set_option maxHeartbeats 12800000
set_option maxRecDepth 20000
namespace Go.X
open Go.RowKit Go.Proofs Go.Bl
variable {L : Own} {h : PH} {K : PK}
def cntB (m : MemD) : Bool := decide (m.status = 2 ∨ m.status = 3)
def cP (l : List MemD) (i : Nat) : List Nat := (List.range i).filter fun j => cntB (gr zeroM l j)
theorem cP_succ (l : List MemD) (i : Nat) : cP l (i + 1) = if cntB (gr zeroM l i) then cP l i ++ [i] else cP l i := by
 unfold cP
 rw [List.range_succ, List.filter_append]
 by_cases c : cntB (gr zeroM l i) = true
 ·simp [c]
 ·simp [c]
theorem cP_lt {l : List MemD} {i j : Nat} (hj : j ∈ cP l i) : j < i := by
 unfold cP at hj
 exact List.mem_range.1 (List.mem_filter.1 hj).1
theorem cP_len (l : List MemD) (i : Nat) : (cP l i).length ≤ i := by
 have := List.length_filter_le (fun j => cntB (gr zeroM l j)) (List.range i)
 rwa [List.length_range] at this
theorem cP_cnt {l : List MemD} {i j : Nat} (hj : j ∈ cP l i) : cntB (gr zeroM l j) = true := by
 unfold cP at hj
 exact (List.mem_filter.1 hj).2
def thI (l : List MemD) (ks : List Int) (i : Nat) : List Nat := (cP l i).filter fun (j : Nat) => getB ks j
theorem thI_len (l : List MemD) (ks : List Int) (i : Nat) : (thI l ks i).length ≤ i := Nat.le_trans (List.length_filter_le _ _) (cP_len l i)
theorem thI_succ (l : List MemD) (ks : List Int) (i : Nat) : thI l ks (i + 1) = if cntB (gr zeroM l i) && getB ks i then thI l ks i ++ [i] else thI l ks i := by
 unfold thI
 rw [cP_succ]
 by_cases c : cntB (gr zeroM l i) = true
 ·by_cases c2 : getB ks i = true
  ·simp [c, c2]
  ·simp [c, c2]
 ·simp [c]
def effI (l : List MemD) (i : Nat) : Int := (gr zeroM l i).eff
def actL (l : List MemD) : Int := tot ((cP l l.length).map (effI l))
def preL (l : List MemD) (ks : List Int) : Int := tot ((thI l ks l.length).map (effI l))
theorem tot_cons' (x : Int) (xs : List Int) : tot (x :: xs) = x + tot xs := by
 have : ∀ k, sumK (x :: xs) (k + 1) = x + sumK xs k := fun k => by
  induction k with
  | zero => simp [sumK, at0]
  | succ k ih => rw [sumK, ih, sumK]; simp only [at0, List.getD_cons_succ]; omega
 exact this xs.length
theorem tot_filter {α : Type} (f : α → Int) (q : α → Bool) : ∀ (xs : List α), (∀ x ∈ xs, 0 ≤ f x) → 0 ≤ tot ((xs.filter q).map f) ∧ tot ((xs.filter q).map f) ≤ tot (xs.map f)
 | [], _ => ⟨Int.le_refl _, Int.le_refl _⟩
 | x :: xs, h0 => by
  have ih := tot_filter f q xs fun y hy => h0 y (List.mem_cons_of_mem _ hy)
  have hx := h0 x List.mem_cons_self
  rw [List.filter_cons]
  split
  ·rw [List.map_cons, List.map_cons, tot_cons', tot_cons']; omega
  ·rw [List.map_cons, tot_cons']; omega
theorem eff_ok {l : List MemD} (hm : ∀ x ∈ l, MemOk x) (i : Nat) : 0 ≤ effI l i ∧ effI l i ≤ 18446744073709551615 := by
 unfold effI
 by_cases c : i < l.length
 ·rw [gr_lt c]
  exact (hm _ (List.getElem_mem c)).u _ (by simp)
 ·have : gr zeroM l i = zeroM := by
   unfold gr
   rw [List.getD_eq_getElem?_getD, List.getElem?_eq_none (by omega)]; rfl
  rw [this]; decide
theorem pre_le {l : List MemD} {ks : List Int} (hm : ∀ x ∈ l, MemOk x) : 0 ≤ preL l ks ∧ preL l ks ≤ actL l := tot_filter _ _ _ fun x _ => (eff_ok hm x).1
def preS (s : StD) : Int := preL s.members s.marks
def actS (s : StD) : Int := actL s.members
def modeS (s : StD) : Int := modeP s.par.delay (stepP s.calm (preS s) (actS s)).1 s.emer
structure SlD where
 mem : Int
 there : Bool
 prize : Int
 over : Int
 fine : Int
 burned : Int
 ends : Int
 paid : Int
 deriving DecidableEq
def efC (l : List MemD) (ix : List Nat) : List Value := (ix.map (effI l)).map (.int .u64)
theorem efC_len (l : List MemD) (ix : List Nat) : (efC l ix).length = ix.length * 1 := by simp [efC]
theorem efC_snoc (l : List MemD) (ix : List Nat) (k : Nat) : efC l (ix ++ [k]) = efC l ix ++ [.int .u64 (effI l k)] := by simp [efC]
theorem ef_ints {l : List MemD} (hm : ∀ x ∈ l, MemOk x) {ix : List Nat} {h : PH} {v : Value} (sl : Sl h v ix.length 1 (efC l ix)) : Ints h .u64 v (ix.map (effI l)) := by
 refine ⟨by rw [List.length_map]; exact sl, fun z hz => ?_⟩
 obtain ⟨i, _, rfl⟩ := List.mem_map.1 hz
 rw [show IntKind.u64.min = 0 by decide, show IntKind.u64.max = 18446744073709551615 by decide]
 exact eff_ok hm i
theorem oent_splitV {e sz : Nat} (o : Option (Nat × Nat)) (xs : List Value) (L : Own) : oent e sz o xs L = oent e sz o xs [] ++ L := by cases o <;> rfl
theorem getBk {ks : List Int} {k : Nat} {b : Bool} (e : getB ks k = b) : getB ks (k : Int) = b := e
theorem mstakes_any {l : List MemD} {ks : List Int} (v kv : Value) (hd0 : Recs memC 6 h v l) (hm : ∀ x ∈ l, MemOk x) (hkv : Ints h .u8 kv ks) (hn : l.length ≤ 1000) (hA : actL l ≤ 18446744073709551615)
  (hk : ∀ h', PH.le h h' → K (.tuple #[.int .u64 (preL l ks), .int .u64 (actL l), .int .i64 0]) L h') : Spec Tryz.prog 121 [v, kv] L h K := by
 have hP := pre_le (ks := ks) hm
 have hkv0 := hkv
 obtain ⟨a, c, rfl, hc, hl, _, hd⟩ := hd0.open
 obtain ⟨ka, kc, rfl, _⟩ := hkv.open
 refine x_enter Tryz.func121 rfl (rs := [_, _, _]) rfl rfl mixed (by kernel_rfl) rfl rfl ?_
 simp -dsimp -implicitDefEqProofs (disch := first|with_reducible assumption|omega) [go_sem]
 refine xloop (γ := Nat × Option (Nat × Nat) × Option (Nat × Nat)) (0, none, none) (fun s => s.1 ≤ l.length ∧ okO s.2.1 (cP l s.1).length ∧ okO s.2.2 (thI l ks s.1).length ∧ apO s.2.1 (oent 22 1 s.2.2 (efC l (thI l ks s.1)) L) h ∧ apO s.2.2 L h)
  (fun s => [(13, .int .i64 s.1), (12, .int .i64 l.length), (11, .slice a l.length c), (8, ovs s.2.1 (cP l s.1).length), (7, ovs s.2.2 (thI l ks s.1).length), (1, .slice ka ks.length kc)])
  (fun s => oent 22 1 s.2.1 (efC l (cP l s.1)) (oent 22 1 s.2.2 (efC l (thI l ks s.1)) L)) (fun _ => h) (fun s => l.length - s.1) ?_ ?_ ?_ ?_
 ·exact ⟨Nat.zero_le _, rfl, rfl, trivial, trivial⟩
 ·simp [Ent, List.lookup, xEnv, ovs, cP, thI]
 ·exact Drop.refl _ _
 rintro ⟨k, o1, o2⟩ ⟨i1, i2, i3, i4, i5⟩
 simp only at i1 i2 i3 i4 i5 ⊢
 by_cases c1 : k < l.length
 ·have hcn : (cP l k).length ≤ k := cP_len l k
  have htn : (thI l ks k).length ≤ k := thI_len l ks k
  have hs1 := cP_succ l k
  have hs2 := thI_succ l ks k
  simp -dsimp -implicitDefEqProofs (disch := first|with_reducible assumption|omega) [go_sem, ↓idxR zeroM (by decide) hd, memC]
  refine xnew fun b7 n_b7 h_b7 => ?_
  try simp only [Apart] at n_b7
  have n7 := apart_oent (apart_oent n_b7)
  simp -dsimp -implicitDefEqProofs (disch := first|with_reducible assumption|omega) [go_sem, memC]
  refine counts_any (gr zeroM l k) ?_
  by_cases c2 : cntB (gr zeroM l k) = true
  ·have c2' : (gr zeroM l k).status = 2 ∨ (gr zeroM l k).status = 3 := by simpa [cntB] using c2
   rw [decide_eq_true c2']
   rw [if_pos c2] at hs1
   rw [c2, Bool.true_and] at hs2
   simp -dsimp -implicitDefEqProofs (disch := first|with_reducible assumption|omega) [go_sem, memC]
   refine xnew fun b8 n_b8 h_b8 => ?_
   try simp only [Apart] at n_b8
   simp -dsimp -implicitDefEqProofs (disch := first|with_reducible assumption|omega) [go_sem]
   refine xappend (t := 25) (e := 22) (sz := 1) (bytes := 8) (by kernel_rfl) tI_22 rfl rfl rfl rfl (by decide) [_, _] _ o1 (cP l k).length (efC l (cP l k)) i2 (efC_len _ _) (Src.own List.mem_cons_self) (m := 1) (news := [.int .u64 (gr zeroM l k).eff]) rfl (by intro u hu; simp only [List.mem_singleton] at hu; subst hu; rfl) (by simp [maxLen]; omega) (by omega) ?_
   intro o1' j1 j2 j3
   have j4 := apO_tail (apO_tail j2)
   have e1 : efC l (cP l k) ++ [.int .u64 (gr zeroM l k).eff] = efC l (cP l (k + 1)) := by rw [hs1, efC_snoc]; rfl
   have e2 : (cP l k).length + 1 = (cP l (k + 1)).length := by rw [hs1]; simp
   rw [e2] at j1 ⊢
   rw [e1]
   simp -dsimp -implicitDefEqProofs (disch := first|with_reducible assumption|omega) [go_sem]
   refine get_any (bs := ks) _ k hkv0 (by omega) ?_
   by_cases c3 : getB ks k = true
   ·rw [if_pos c3] at hs2
    rw [c3]
    simp -dsimp -implicitDefEqProofs (disch := first|with_reducible assumption|omega) [go_sem]
    refine xnew fun b9 n_b9 h_b9 => ?_
    try simp only [Apart] at n_b9
    simp -dsimp -implicitDefEqProofs (disch := first|with_reducible assumption|omega) [go_sem]
    rw [oent_splitV (e := 22) o1']
    refine xappend (t := 25) (e := 22) (sz := 1) (bytes := 8) (by kernel_rfl) tI_22 rfl rfl rfl rfl (by decide) (_ :: _ :: _ :: oent 22 1 o1' _ []) _ o2 (thI l ks k).length (efC l (thI l ks k)) i3 (efC_len _ _) (Src.own List.mem_cons_self) (m := 1) (news := [.int .u64 (gr zeroM l k).eff]) rfl (by intro u hu; simp only [List.mem_singleton] at hu; subst hu; rfl) (by simp [maxLen]; omega) (by omega) ?_
    intro o2' l1 l2 l3
    have l4 := apO_tail (apO_tail (apO_tail l2))
    have l5 := apO_swap (e2 := 22) (sz2 := 1) (cs2 := efC l (thI l ks (k + 1))) (apO_oent j4) l4
    have e3 : efC l (thI l ks k) ++ [.int .u64 (gr zeroM l k).eff] = efC l (thI l ks (k + 1)) := by rw [hs2, efC_snoc]; rfl
    have e4 : (thI l ks k).length + 1 = (thI l ks (k + 1)).length := by rw [hs2]; simp
    rw [e4] at l1 ⊢
    rw [e3]
    simp -dsimp -implicitDefEqProofs (disch := first|with_reducible assumption|omega) [go_sem]
    refine ⟨k + 1, o1', o2', ⟨by omega, j1, l1, l5.1, l5.2⟩, by omega, by simp [Ent, List.lookup], ?_⟩
    rw [← oent_splitV]
    exact (Drop.tail _ _ _).trans ((Drop.tail _ _ _).trans (Drop.tail _ _ _))
   ·rw [if_neg c3] at hs2
    rw [show getB ks k = false by simpa using c3]
    simp -dsimp -implicitDefEqProofs (disch := first|with_reducible assumption|omega) [go_sem]
    refine ⟨k + 1, o1', o2, ⟨by omega, j1, by rw [hs2]; exact i3, by rw [hs2]; exact j4, i5⟩, by omega, by simp [Ent, List.lookup, hs2], ?_⟩
    rw [hs2]
    exact (Drop.tail _ _ _).trans (Drop.tail _ _ _)
  ·have c2' : ¬ ((gr zeroM l k).status = 2 ∨ (gr zeroM l k).status = 3) := by simpa [cntB] using c2
   rw [decide_eq_false c2']
   rw [if_neg c2] at hs1
   rw [show cntB (gr zeroM l k) = false by simpa using c2, Bool.false_and] at hs2
   simp only [Bool.false_eq_true, if_false] at hs2
   simp -dsimp -implicitDefEqProofs (disch := first|with_reducible assumption|omega) [go_sem]
   refine ⟨k + 1, o1, o2, ⟨by omega, by rw [hs1]; exact i2, by rw [hs2]; exact i3, by rw [hs2]; exact i4, i5⟩, by omega, by simp [Ent, List.lookup, hs1, hs2], ?_⟩
   rw [hs1, hs2]
   exact Drop.tail _ _ _
 ·obtain rfl : k = l.length := by omega
  simp -dsimp -implicitDefEqProofs (disch := first|with_reducible assumption|omega) [go_sem]
  have hcn : (cP l l.length).length ≤ l.length := cP_len l l.length
  have htn : (thI l ks l.length).length ≤ l.length := thI_len l ks l.length
  rw [oent_splitV (e := 22) o1]
  refine call_pub_o (n := (thI l ks l.length).length) (oent 22 1 o1 (efC l (cP l l.length)) []) i3 (efC_len _ _) (by omega) (fun h1 le1 sl1 => ?_) ⟨Tryz.f33, Tryz.func33, by decide +kernel, rfl⟩
  rw [← oent_splitV (e := 22) o1]
  have it := ef_ints hm sl1
  refine msum_any _ it ?_
  rw [show tot ((thI l ks l.length).map (effI l)) = preL l ks from rfl, sumV_ok (by omega)]
  simp -dsimp -implicitDefEqProofs (disch := first|with_reducible assumption|omega) [go_sem]
  refine call_pub_o (n := (cP l l.length).length) [] i2 (efC_len _ _) (by omega) (fun h2 le2 sl2 => ?_) ⟨Tryz.f33, Tryz.func33, by decide +kernel, rfl⟩
  have ia := ef_ints hm sl2
  refine msum_any _ ia ?_
  rw [show tot ((cP l l.length).map (effI l)) = actL l from rfl, sumV_ok hA]
  simp -dsimp -implicitDefEqProofs (disch := first|with_reducible assumption|omega) [go_sem]
  exact fin_here (hk h2 (le1.trans le2))
structure SlH (s : StD) : Prop where
 r : parR s.par = true
 ok : ParOk s.par
 mo : ∀ x ∈ s.members, MemOk x
 len : s.members.length ≤ 128
 act : actS s ≤ 140737488355328
 gm : 0 ≤ s.gen + s.mint ∧ s.gen + s.mint ≤ 4611686018427387904
 g0 : 0 ≤ s.gen
 m0 : 0 ≤ s.mint
 most : 0 ≤ s.most ∧ s.most ≤ 4611686018427387904
 calm : 0 ≤ s.calm ∧ s.calm ≤ 1073741824
 xn : s.exit.Nodup
 xb : ∀ x ∈ s.exit, 0 ≤ x ∧ x < 128
 xl : s.exit.length ≤ 128
 fit : ∀ x ∈ s.members, mfitsB s.par x = true
theorem after_ok {p : ParD} (ok : ParOk p) (hr : parR p = true) {m : MemD} (mo : MemOk m) (there : Bool) (mode : Int) : MemOk (afterM p m there mode) := by
 have hs := parR_streak hr
 have us := mo.u m.score (by simp)
 have un := mo.n m.streak (by simp)
 have ur := ok.w p.recover (by simp [wides])
 have u1 := ok.w p.bias (by simp [wides])
 have u2 := ok.w p.biasEm (by simp [wides])
 have u3 := ok.w p.scoreCap (by simp [wides])
 cases there with
 | true =>
  rw [after_t]
  refine ⟨fun z hz => ?_, fun z hz => ?_⟩
  ·simp only [List.mem_cons, List.not_mem_nil, or_false] at hz
   rcases hz with rfl | rfl | rfl
   ·exact mo.u _ (by simp)
   ·exact mo.u _ (by simp)
   ·unfold fallP; split <;> omega
  ·simp only [List.mem_cons, List.not_mem_nil, or_false] at hz
   rcases hz with rfl | rfl | rfl
   ·unfold strP; split <;> omega
   ·exact mo.n _ (by simp)
   ·exact mo.n _ (by simp)
 | false =>
  rw [after_f]
  refine ⟨fun z hz => ?_, fun z hz => ?_⟩
  ·simp only [List.mem_cons, List.not_mem_nil, or_false] at hz
   rcases hz with rfl | rfl | rfl
   ·exact mo.u _ (by simp)
   ·exact mo.u _ (by simp)
   ·unfold scoA riseP; split
    ·omega
    ·split <;> omega
  ·simp only [List.mem_cons, List.not_mem_nil, or_false] at hz
   rcases hz with rfl | rfl | rfl
   ·omega
   ·exact mo.n _ (by simp)
   ·exact mo.n _ (by simp)
theorem okO_leM {o : Option (Nat × Nat)} {n m : Nat} (ho : okO o n) (hm : m ≤ n) : okO o m := by
 cases o with
 | none => have : n = 0 := ho; show m = 0; omega
 | some p => exact ⟨Nat.le_trans hm ho.1, ho.2⟩
end Go.X

/- Lemmas and contracts for a statement about the given program. Conditions: as each says. -/
import Derived.Test.YtmkekhodcacfbaaGreatQ18
import Derived.Test.YtmkekhodcacfbaaGreatQ20
import Derived.Test.YtmkekhodcacfbaaGreatQ29
import Derived.Test.YtmkekhodcacfbaaGreatQ31
import Derived.Test.YtmkekhodcacfbaaGreatQ32
import Derived.Test.YtmkekhodcacfbaaGreatQ33
set_option linter.unusedVariables false
set_option linter.unusedSimpArgs false
set_option maxHeartbeats 12800000
set_option maxRecDepth 20000
namespace Go.X
open Go.RowKit Go.Proofs Go.Bl
variable {L : Own} {h : PH} {K : PK}
def cntB (m : MemD) : Bool := decide (m.status = 2 ∨ m.status = 3)
def cP (l : List MemD) (i : Nat) : List Nat := (List.range i).filter fun j => cntB (gr zeroM l j)
theorem cP_succ (l : List MemD) (i : Nat) : cP l (i + 1) = if cntB (gr zeroM l i) then cP l i ++ [i] else cP l i := by
 unfold cP
 rw [List.range_succ, List.filter_append]
 by_cases c : cntB (gr zeroM l i) = true
 ·simp [c]
 ·simp [c]
theorem cP_lt {l : List MemD} {i j : Nat} (hj : j ∈ cP l i) : j < i := by
 unfold cP at hj
 exact List.mem_range.1 (List.mem_filter.1 hj).1
theorem cP_len (l : List MemD) (i : Nat) : (cP l i).length ≤ i := by
 have := List.length_filter_le (fun j => cntB (gr zeroM l j)) (List.range i)
 rwa [List.length_range] at this
theorem cP_cnt {l : List MemD} {i j : Nat} (hj : j ∈ cP l i) : cntB (gr zeroM l j) = true := by
 unfold cP at hj
 exact (List.mem_filter.1 hj).2
def thI (l : List MemD) (ks : List Int) (i : Nat) : List Nat := (cP l i).filter fun (j : Nat) => getB ks j
theorem thI_len (l : List MemD) (ks : List Int) (i : Nat) : (thI l ks i).length ≤ i := Nat.le_trans (List.length_filter_le _ _) (cP_len l i)
theorem thI_succ (l : List MemD) (ks : List Int) (i : Nat) : thI l ks (i + 1) = if cntB (gr zeroM l i) && getB ks i then thI l ks i ++ [i] else thI l ks i := by
 unfold thI
 rw [cP_succ]
 by_cases c : cntB (gr zeroM l i) = true
 ·by_cases c2 : getB ks i = true
  ·simp [c, c2]
  ·simp [c, c2]
 ·simp [c]
def effI (l : List MemD) (i : Nat) : Int := (gr zeroM l i).eff
def actL (l : List MemD) : Int := tot ((cP l l.length).map (effI l))
def preL (l : List MemD) (ks : List Int) : Int := tot ((thI l ks l.length).map (effI l))
theorem tot_cons' (x : Int) (xs : List Int) : tot (x :: xs) = x + tot xs := by
 have : ∀ k, sumK (x :: xs) (k + 1) = x + sumK xs k := fun k => by
  induction k with
  | zero => simp [sumK, at0]
  | succ k ih => rw [sumK, ih, sumK]; simp only [at0, List.getD_cons_succ]; omega
 exact this xs.length
theorem tot_filter {α : Type} (f : α → Int) (q : α → Bool) : ∀ (xs : List α), (∀ x ∈ xs, 0 ≤ f x) → 0 ≤ tot ((xs.filter q).map f) ∧ tot ((xs.filter q).map f) ≤ tot (xs.map f)
 | [], _ => ⟨Int.le_refl _, Int.le_refl _⟩
 | x :: xs, h0 => by
  have ih := tot_filter f q xs fun y hy => h0 y (List.mem_cons_of_mem _ hy)
  have hx := h0 x List.mem_cons_self
  rw [List.filter_cons]
  split
  ·rw [List.map_cons, List.map_cons, tot_cons', tot_cons']; omega
  ·rw [List.map_cons, tot_cons']; omega
theorem eff_ok {l : List MemD} (hm : ∀ x ∈ l, MemOk x) (i : Nat) : 0 ≤ effI l i ∧ effI l i ≤ 18446744073709551615 := by
 unfold effI
 by_cases c : i < l.length
 ·rw [gr_lt c]
  exact (hm _ (List.getElem_mem c)).u _ (by simp)
 ·have : gr zeroM l i = zeroM := by
   unfold gr
   rw [List.getD_eq_getElem?_getD, List.getElem?_eq_none (by omega)]; rfl
  rw [this]; decide
theorem pre_le {l : List MemD} {ks : List Int} (hm : ∀ x ∈ l, MemOk x) : 0 ≤ preL l ks ∧ preL l ks ≤ actL l := tot_filter _ _ _ fun x _ => (eff_ok hm x).1
def thB (s : StD) (i : Nat) : Bool := getB s.marks i
def cI (s : StD) : List Nat := cP s.members s.members.length
def preS (s : StD) : Int := preL s.members s.marks
def actS (s : StD) : Int := actL s.members
def modeS (s : StD) : Int := modeP s.par.delay (stepP s.calm (preS s) (actS s)).1 s.emer
def nowM (s : StD) (i : Nat) : MemD := afterM s.par (gr zeroM s.members i) (thB s i) (modeS s)
def wsS (s : StD) : List Int := ((thI s.members s.marks s.members.length).map (nowM s)).map (weightP s.par)
def mintS (s : StD) : Int := mintP s.par (actS s) (s.gen + s.mint) s.most (modeS s)
def partsS (s : StD) : List Int := splitL (mintS s) (tot (wsS s)) (wsS s)
def prizeS (s : StD) (i : Nat) : Int := at0 (partsS s) (thI s.members s.marks i).length
def payS (s : StD) (i : Nat) : MemD × Int := payM s.par (nowM s i) (prizeS s i)
def fineS (s : StD) (i : Nat) : Int := fineP s.par (nowM s i) (modeS s)
structure SlD where
 mem : Int
 there : Bool
 prize : Int
 over : Int
 fine : Int
 burned : Int
 ends : Int
 paid : Int
 deriving DecidableEq
def zeroSl : SlD := ⟨0, false, 0, 0, 0, 0, 0, 0⟩
def slC (x : SlD) : List Value := [.int .i64 x.mem, .bool x.there, .int .u64 x.prize, .int .u64 x.over, .int .u64 x.fine, .int .u64 x.burned, .int .i64 x.ends, .int .u64 x.paid]
abbrev slV (x : SlD) : Value := .agg #[.int .i64 x.mem, .bool x.there, .int .u64 x.prize, .int .u64 x.over, .int .u64 x.fine, .int .u64 x.burned, .int .i64 x.ends, .int .u64 x.paid]
theorem slC_len (x : SlD) : (slC x).length = 8 := rfl
def slip0 (s : StD) (i : Nat) : SlD := ⟨i, thB s i, 0, 0, 0, 0, 0, 0⟩
def slip1 (s : StD) (i : Nat) : SlD := if thB s i then ⟨i, true, prizeS s i, (payS s i).2, 0, 0, 0, 0⟩ else ⟨i, false, 0, 0, fineS s i, burnP s.par (fineS s i), 0, 0⟩
def endM' (s : StD) (i : Nat) : MemD := if thB s i then (payS s i).1 else { nowM s i with bal := (nowM s i).bal - fineS s i }
def outB (s : StD) (i : Nat) : Bool := decide ((endM' s i).bal ≤ s.par.floor)
def exF (s : StD) (e : List Int) (l : List Nat) : List Int := l.foldl (fun e i => if outB s i then flt e i else e) e
def leftS (s : StD) : List Int := (exF s s.exit (cI s)).take s.par.churn.toNat
def endsS (s : StD) (i : Nat) : Int := if (i : Int) ∈ leftS s then 5 else if outB s i then 4 else 0
def slip2 (s : StD) (i : Nat) : SlD := { slip1 s i with ends := endsS s i, paid := if endsS s i ≠ 0 then (endM' s i).bal else 0 }
def slipsE (s : StD) : Int := if fitsS s then (if 1073741824 ≤ s.ep then 200 else 0) else 291
def slipsL (s : StD) : List SlD := if slipsE s = 0 then (cI s).map (slip2 s) else []
def efC (l : List MemD) (ix : List Nat) : List Value := (ix.map (effI l)).map (.int .u64)
theorem efC_len (l : List MemD) (ix : List Nat) : (efC l ix).length = ix.length * 1 := by simp [efC]
theorem efC_snoc (l : List MemD) (ix : List Nat) (k : Nat) : efC l (ix ++ [k]) = efC l ix ++ [.int .u64 (effI l k)] := by simp [efC]
theorem ef_ints {l : List MemD} (hm : ∀ x ∈ l, MemOk x) {ix : List Nat} {h : PH} {v : Value} (sl : Sl h v ix.length 1 (efC l ix)) : Ints h .u64 v (ix.map (effI l)) := by
 refine ⟨by rw [List.length_map]; exact sl, fun z hz => ?_⟩
 obtain ⟨i, _, rfl⟩ := List.mem_map.1 hz
 rw [show IntKind.u64.min = 0 by decide, show IntKind.u64.max = 18446744073709551615 by decide]
 exact eff_ok hm i
theorem oent_splitV {e sz : Nat} (o : Option (Nat × Nat)) (xs : List Value) (L : Own) : oent e sz o xs L = oent e sz o xs [] ++ L := by cases o <;> rfl
theorem mstakes_any {l : List MemD} {ks : List Int} (v kv : Value) (hd0 : Recs memC 6 h v l) (hm : ∀ x ∈ l, MemOk x) (hkv : Ints h .u8 kv ks) (hn : l.length ≤ 1000) (hA : actL l ≤ 18446744073709551615)
  (hk : ∀ h', PH.le h h' → K (.tuple #[.int .u64 (preL l ks), .int .u64 (actL l), .int .i64 0]) L h') : Spec Tryz.prog 121 [v, kv] L h K := by
 have hP := pre_le (ks := ks) hm
 have hkv0 := hkv
 obtain ⟨a, c, rfl, hc, hl, _, hd⟩ := hd0.open
 obtain ⟨ka, kc, rfl, _⟩ := hkv.open
 refine x_enter Tryz.func121 rfl (rs := [_, _, _]) rfl rfl mixed (by kernel_rfl) rfl rfl ?_
 simp -dsimp -implicitDefEqProofs (disch := first|with_reducible assumption|omega) [go_sem]
 refine xloop (γ := Nat × Option (Nat × Nat) × Option (Nat × Nat)) (0, none, none) (fun s => s.1 ≤ l.length ∧ okO s.2.1 (cP l s.1).length ∧ okO s.2.2 (thI l ks s.1).length ∧ apO s.2.1 (oent 22 1 s.2.2 (efC l (thI l ks s.1)) L) h ∧ apO s.2.2 L h)
  (fun s => [(13, .int .i64 s.1), (12, .int .i64 l.length), (11, .slice a l.length c), (8, ovs s.2.1 (cP l s.1).length), (7, ovs s.2.2 (thI l ks s.1).length), (1, .slice ka ks.length kc)])
  (fun s => oent 22 1 s.2.1 (efC l (cP l s.1)) (oent 22 1 s.2.2 (efC l (thI l ks s.1)) L)) (fun _ => h) (fun s => l.length - s.1) ?_ ?_ ?_ ?_
 ·exact ⟨Nat.zero_le _, rfl, rfl, trivial, trivial⟩
 ·simp [Ent, List.lookup, xEnv, ovs, cP, thI]
 ·exact Drop.refl _ _
 rintro ⟨k, o1, o2⟩ ⟨i1, i2, i3, i4, i5⟩
 simp only at i1 i2 i3 i4 i5 ⊢
 by_cases c1 : k < l.length
 ·have hcn : (cP l k).length ≤ k := cP_len l k
  have htn : (thI l ks k).length ≤ k := thI_len l ks k
  have hs1 := cP_succ l k
  have hs2 := thI_succ l ks k
  simp -dsimp -implicitDefEqProofs (disch := first|with_reducible assumption|omega) [go_sem, ↓idxR zeroM (by decide) hd, memC]
  refine xnew fun b7 n_b7 h_b7 => ?_
  try simp only [Apart] at n_b7
  have n7 := apart_oent (apart_oent n_b7)
  simp -dsimp -implicitDefEqProofs (disch := first|with_reducible assumption|omega) [go_sem, memC]
  refine counts_any (gr zeroM l k) ?_
  by_cases c2 : cntB (gr zeroM l k) = true
  ·have c2' : (gr zeroM l k).status = 2 ∨ (gr zeroM l k).status = 3 := by simpa [cntB] using c2
   rw [decide_eq_true c2']
   rw [if_pos c2] at hs1
   rw [c2, Bool.true_and] at hs2
   simp -dsimp -implicitDefEqProofs (disch := first|with_reducible assumption|omega) [go_sem, memC]
   refine xnew fun b8 n_b8 h_b8 => ?_
   try simp only [Apart] at n_b8
   simp -dsimp -implicitDefEqProofs (disch := first|with_reducible assumption|omega) [go_sem]
   refine xappend (t := 25) (e := 22) (sz := 1) (bytes := 8) (by kernel_rfl) tI_22 rfl rfl rfl rfl (by decide) [_, _] _ o1 (cP l k).length (efC l (cP l k)) i2 (efC_len _ _) (Src.own List.mem_cons_self) (m := 1) (news := [.int .u64 (gr zeroM l k).eff]) rfl (by intro u hu; simp only [List.mem_singleton] at hu; subst hu; rfl) (by simp [maxLen]; omega) (by omega) ?_
   intro o1' j1 j2 j3
   have j4 := apO_tail (apO_tail j2)
   have e1 : efC l (cP l k) ++ [.int .u64 (gr zeroM l k).eff] = efC l (cP l (k + 1)) := by rw [hs1, efC_snoc]; rfl
   have e2 : (cP l k).length + 1 = (cP l (k + 1)).length := by rw [hs1]; simp
   rw [e2] at j1 ⊢
   rw [e1]
   simp -dsimp -implicitDefEqProofs (disch := first|with_reducible assumption|omega) [go_sem]
   refine get_any (bs := ks) _ k hkv0 (by omega) ?_
   by_cases c3 : getB ks k = true
   ·rw [if_pos c3] at hs2
    rw [c3]
    simp -dsimp -implicitDefEqProofs (disch := first|with_reducible assumption|omega) [go_sem]
    refine xnew fun b9 n_b9 h_b9 => ?_
    try simp only [Apart] at n_b9
    simp -dsimp -implicitDefEqProofs (disch := first|with_reducible assumption|omega) [go_sem]
    rw [oent_splitV (e := 22) o1']
    refine xappend (t := 25) (e := 22) (sz := 1) (bytes := 8) (by kernel_rfl) tI_22 rfl rfl rfl rfl (by decide) (_ :: _ :: _ :: oent 22 1 o1' _ []) _ o2 (thI l ks k).length (efC l (thI l ks k)) i3 (efC_len _ _) (Src.own List.mem_cons_self) (m := 1) (news := [.int .u64 (gr zeroM l k).eff]) rfl (by intro u hu; simp only [List.mem_singleton] at hu; subst hu; rfl) (by simp [maxLen]; omega) (by omega) ?_
    intro o2' l1 l2 l3
    have l4 := apO_tail (apO_tail (apO_tail l2))
    have l5 := apO_swap (e2 := 22) (sz2 := 1) (cs2 := efC l (thI l ks (k + 1))) (apO_oent j4) l4
    have e3 : efC l (thI l ks k) ++ [.int .u64 (gr zeroM l k).eff] = efC l (thI l ks (k + 1)) := by rw [hs2, efC_snoc]; rfl
    have e4 : (thI l ks k).length + 1 = (thI l ks (k + 1)).length := by rw [hs2]; simp
    rw [e4] at l1 ⊢
    rw [e3]
    simp -dsimp -implicitDefEqProofs (disch := first|with_reducible assumption|omega) [go_sem]
    refine ⟨k + 1, o1', o2', ⟨by omega, j1, l1, l5.1, l5.2⟩, by omega, by simp [Ent, List.lookup], ?_⟩
    rw [← oent_splitV]
    exact (Drop.tail _ _ _).trans ((Drop.tail _ _ _).trans (Drop.tail _ _ _))
   ·rw [if_neg c3] at hs2
    rw [show getB ks k = false by simpa using c3]
    simp -dsimp -implicitDefEqProofs (disch := first|with_reducible assumption|omega) [go_sem]
    refine ⟨k + 1, o1', o2, ⟨by omega, j1, by rw [hs2]; exact i3, by rw [hs2]; exact j4, i5⟩, by omega, by simp [Ent, List.lookup, hs2], ?_⟩
    rw [hs2]
    exact (Drop.tail _ _ _).trans (Drop.tail _ _ _)
  ·have c2' : ¬ ((gr zeroM l k).status = 2 ∨ (gr zeroM l k).status = 3) := by simpa [cntB] using c2
   rw [decide_eq_false c2']
   rw [if_neg c2] at hs1
   rw [show cntB (gr zeroM l k) = false by simpa using c2, Bool.false_and] at hs2
   simp only [Bool.false_eq_true, if_false] at hs2
   simp -dsimp -implicitDefEqProofs (disch := first|with_reducible assumption|omega) [go_sem]
   refine ⟨k + 1, o1, o2, ⟨by omega, by rw [hs1]; exact i2, by rw [hs2]; exact i3, by rw [hs2]; exact i4, i5⟩, by omega, by simp [Ent, List.lookup, hs1, hs2], ?_⟩
   rw [hs1, hs2]
   exact Drop.tail _ _ _
 ·obtain rfl : k = l.length := by omega
  simp -dsimp -implicitDefEqProofs (disch := first|with_reducible assumption|omega) [go_sem]
  have hcn : (cP l l.length).length ≤ l.length := cP_len l l.length
  have htn : (thI l ks l.length).length ≤ l.length := thI_len l ks l.length
  rw [oent_splitV (e := 22) o1]
  refine call_pub_o (n := (thI l ks l.length).length) (oent 22 1 o1 (efC l (cP l l.length)) []) i3 (efC_len _ _) (by omega) (fun h1 le1 sl1 => ?_) ⟨Tryz.f69, Tryz.func69, by decide +kernel, rfl⟩
  rw [← oent_splitV (e := 22) o1]
  have it := ef_ints hm sl1
  refine msum_any _ it ?_
  rw [show tot ((thI l ks l.length).map (effI l)) = preL l ks from rfl, sumV_ok (by omega)]
  simp -dsimp -implicitDefEqProofs (disch := first|with_reducible assumption|omega) [go_sem]
  refine call_pub_o (n := (cP l l.length).length) [] i2 (efC_len _ _) (by omega) (fun h2 le2 sl2 => ?_) ⟨Tryz.f69, Tryz.func69, by decide +kernel, rfl⟩
  have ia := ef_ints hm sl2
  refine msum_any _ ia ?_
  rw [show tot ((cP l l.length).map (effI l)) = actL l from rfl, sumV_ok hA]
  simp -dsimp -implicitDefEqProofs (disch := first|with_reducible assumption|omega) [go_sem]
  exact fin_here (hk h2 (le1.trans le2))
theorem stakes19_any {l : List MemD} {ks : List Int} (v kv : Value) (hd0 : Recs memC 6 h v l) (hm : ∀ x ∈ l, MemOk x) (hkv : Ints h .u8 kv ks) (hn : l.length ≤ 1000) (hA : actL l ≤ 18446744073709551615)
  (hk : ∀ h', PH.le h h' → K (.tuple #[.int .u64 (preL l ks), .int .u64 (actL l), .int .i64 0]) L h') : Spec Tryz.prog 37 [v, kv] L h K := by
 have hP := pre_le (ks := ks) hm
 have hkv0 := hkv
 obtain ⟨a, c, rfl, hc, hl, _, hd⟩ := hd0.open
 obtain ⟨ka, kc, rfl, _⟩ := hkv.open
 refine x_enter Tryz.func37 rfl (rs := [_, _, _]) rfl rfl mixed (by kernel_rfl) rfl rfl ?_
 simp -dsimp -implicitDefEqProofs (disch := first|with_reducible assumption|omega) [go_sem]
 refine xloop (γ := Nat × Option (Nat × Nat) × Option (Nat × Nat)) (0, none, none) (fun s => s.1 ≤ l.length ∧ okO s.2.1 (cP l s.1).length ∧ okO s.2.2 (thI l ks s.1).length ∧ apO s.2.1 (oent 22 1 s.2.2 (efC l (thI l ks s.1)) L) h ∧ apO s.2.2 L h)
  (fun s => [(9, .int .i64 s.1), (0, .slice a l.length c), (8, ovs s.2.1 (cP l s.1).length), (7, ovs s.2.2 (thI l ks s.1).length), (1, .slice ka ks.length kc)])
  (fun s => oent 22 1 s.2.1 (efC l (cP l s.1)) (oent 22 1 s.2.2 (efC l (thI l ks s.1)) L)) (fun _ => h) (fun s => l.length - s.1) ?_ ?_ ?_ ?_
 ·exact ⟨Nat.zero_le _, rfl, rfl, trivial, trivial⟩
 ·simp [Ent, List.lookup, xEnv, ovs, cP, thI]
 ·exact Drop.refl _ _
 rintro ⟨k, o1, o2⟩ ⟨i1, i2, i3, i4, i5⟩
 simp only at i1 i2 i3 i4 i5 ⊢
 by_cases c1 : k < l.length
 ·have hcn : (cP l k).length ≤ k := cP_len l k
  have htn : (thI l ks k).length ≤ k := thI_len l ks k
  have hs1 := cP_succ l k
  have hs2 := thI_succ l ks k
  simp -dsimp -implicitDefEqProofs (disch := first|with_reducible assumption|omega) [go_sem, ↓idxR zeroM (by decide) hd, memC]
  refine counts19_any (gr zeroM l k) ?_
  by_cases c2 : cntB (gr zeroM l k) = true
  ·have c2' : (gr zeroM l k).status = 2 ∨ (gr zeroM l k).status = 3 := by simpa [cntB] using c2
   rw [decide_eq_true c2']
   rw [if_pos c2] at hs1
   rw [c2, Bool.true_and] at hs2
   have fe : ∀ (L : Own) (K : Value → Prop) (t : Tok K), xCell L h (elem a (k * 6 + 1)) 0 K t = K (.int .u64 (gr zeroM l k).eff) := fun L K t => hd.fld zeroM c1 (o := 1) rfl L K t
   simp -dsimp -implicitDefEqProofs (disch := first|with_reducible assumption|omega) [go_sem, ↓idxR zeroM (by decide) hd, memC, ↓fe]
   refine xnew fun b8 n_b8 h_b8 => ?_
   try simp only [Apart] at n_b8
   simp -dsimp -implicitDefEqProofs (disch := first|with_reducible assumption|omega) [go_sem]
   refine xappend (t := 25) (e := 22) (sz := 1) (bytes := 8) (by kernel_rfl) tI_22 rfl rfl rfl rfl (by decide) [_] _ o1 (cP l k).length (efC l (cP l k)) i2 (efC_len _ _) (Src.own List.mem_cons_self) (m := 1) (news := [.int .u64 (gr zeroM l k).eff]) rfl (by intro u hu; simp only [List.mem_singleton] at hu; subst hu; rfl) (by simp [maxLen]; omega) (by omega) ?_
   intro o1' j1 j2 j3
   have j4 := apO_tail j2
   have e1 : efC l (cP l k) ++ [.int .u64 (gr zeroM l k).eff] = efC l (cP l (k + 1)) := by rw [hs1, efC_snoc]; rfl
   have e2 : (cP l k).length + 1 = (cP l (k + 1)).length := by rw [hs1]; simp
   rw [e2] at j1 ⊢
   rw [e1]
   simp -dsimp -implicitDefEqProofs (disch := first|with_reducible assumption|omega) [go_sem]
   refine rget_any (bs := ks) _ k hkv0 (by omega) ?_
   by_cases c3 : getB ks k = true
   ·rw [if_pos c3] at hs2
    rw [c3]
    simp -dsimp -implicitDefEqProofs (disch := first|with_reducible assumption|omega) [go_sem, ↓idxR zeroM (by decide) hd, memC, ↓fe]
    refine xnew fun b9 n_b9 h_b9 => ?_
    try simp only [Apart] at n_b9
    simp -dsimp -implicitDefEqProofs (disch := first|with_reducible assumption|omega) [go_sem]
    rw [oent_splitV (e := 22) o1']
    refine xappend (t := 25) (e := 22) (sz := 1) (bytes := 8) (by kernel_rfl) tI_22 rfl rfl rfl rfl (by decide) (_ :: _ :: oent 22 1 o1' _ []) _ o2 (thI l ks k).length (efC l (thI l ks k)) i3 (efC_len _ _) (Src.own List.mem_cons_self) (m := 1) (news := [.int .u64 (gr zeroM l k).eff]) rfl (by intro u hu; simp only [List.mem_singleton] at hu; subst hu; rfl) (by simp [maxLen]; omega) (by omega) ?_
    intro o2' l1 l2 l3
    have l4 := apO_tail (apO_tail l2)
    have l5 := apO_swap (e2 := 22) (sz2 := 1) (cs2 := efC l (thI l ks (k + 1))) (apO_oent j4) l4
    have e3 : efC l (thI l ks k) ++ [.int .u64 (gr zeroM l k).eff] = efC l (thI l ks (k + 1)) := by rw [hs2, efC_snoc]; rfl
    have e4 : (thI l ks k).length + 1 = (thI l ks (k + 1)).length := by rw [hs2]; simp
    rw [e4] at l1 ⊢
    rw [e3]
    simp -dsimp -implicitDefEqProofs (disch := first|with_reducible assumption|omega) [go_sem]
    refine ⟨k + 1, o1', o2', ⟨by omega, j1, l1, l5.1, l5.2⟩, by omega, by simp [Ent, List.lookup], ?_⟩
    rw [← oent_splitV]
    exact (Drop.tail _ _ _).trans (Drop.tail _ _ _)
   ·rw [if_neg c3] at hs2
    rw [show getB ks k = false by simpa using c3]
    simp -dsimp -implicitDefEqProofs (disch := first|with_reducible assumption|omega) [go_sem]
    refine ⟨k + 1, o1', o2, ⟨by omega, j1, by rw [hs2]; exact i3, by rw [hs2]; exact j4, i5⟩, by omega, by simp [Ent, List.lookup, hs2], ?_⟩
    rw [hs2]
    exact Drop.tail _ _ _
  ·have c2' : ¬ ((gr zeroM l k).status = 2 ∨ (gr zeroM l k).status = 3) := by simpa [cntB] using c2
   rw [decide_eq_false c2']
   rw [if_neg c2] at hs1
   rw [show cntB (gr zeroM l k) = false by simpa using c2, Bool.false_and] at hs2
   simp only [Bool.false_eq_true, if_false] at hs2
   simp -dsimp -implicitDefEqProofs (disch := first|with_reducible assumption|omega) [go_sem]
   refine ⟨k + 1, o1, o2, ⟨by omega, by rw [hs1]; exact i2, by rw [hs2]; exact i3, by rw [hs2]; exact i4, i5⟩, by omega, by simp [Ent, List.lookup, hs1, hs2], ?_⟩
   rw [hs1, hs2]
   exact Drop.refl _ _
 ·obtain rfl : k = l.length := by omega
  simp -dsimp -implicitDefEqProofs (disch := first|with_reducible assumption|omega) [go_sem]
  have hcn : (cP l l.length).length ≤ l.length := cP_len l l.length
  have htn : (thI l ks l.length).length ≤ l.length := thI_len l ks l.length
  refine call_pub_o (n := (cP l l.length).length) [] i2 (efC_len _ _) (by omega) (fun h1 le1 sl1 => ?_) ⟨Tryz.f73, Tryz.func73, by decide +kernel, rfl⟩
  have ia := ef_ints hm sl1
  refine rsum_any _ ia (by rw [List.length_map]; omega) fun h2 r2 le2 n2 => ?_
  obtain ⟨qa, qk, qc, rfl⟩ := n2.sl
  rw [show tot ((cP l l.length).map (effI l)) = actL l from rfl] at n2
  simp -dsimp -implicitDefEqProofs (disch := first|with_reducible assumption|omega) [go_sem]
  refine uint_any _ n2 fun h3 le3 => ?_
  rw [show u64E (actL l) = true from decide_eq_true hA, show u64N (actL l) = actL l by rw [u64N, if_pos hA]]
  simp -dsimp -implicitDefEqProofs (disch := first|with_reducible assumption|omega) [go_sem]
  refine call_pub_o (n := (thI l ks l.length).length) [] i3 (efC_len _ _) (by omega) (fun h4 le4 sl4 => ?_) ⟨Tryz.f73, Tryz.func73, by decide +kernel, rfl⟩
  have it := ef_ints hm sl4
  refine rsum_any _ it (by rw [List.length_map]; omega) fun h5 r5 le5 n5 => ?_
  obtain ⟨sa, sk, sc, rfl⟩ := n5.sl
  rw [show tot ((thI l ks l.length).map (effI l)) = preL l ks from rfl] at n5
  simp -dsimp -implicitDefEqProofs (disch := first|with_reducible assumption|omega) [go_sem]
  refine uint_any _ n5 fun h6 le6 => ?_
  rw [show u64E (preL l ks) = true from decide_eq_true (by omega), show u64N (preL l ks) = preL l ks by rw [u64N, if_pos (by omega)]]
  simp -dsimp -implicitDefEqProofs (disch := first|with_reducible assumption|omega) [go_sem]
  exact fin_here (hk h6 (le1.trans (le2.trans (le3.trans (le4.trans (le5.trans le6))))))
structure SlH (s : StD) : Prop where
 r : parR s.par = true
 ok : ParOk s.par
 mo : ∀ x ∈ s.members, MemOk x
 len : s.members.length ≤ 128
 act : actS s ≤ 140737488355328
 gm : 0 ≤ s.gen + s.mint ∧ s.gen + s.mint ≤ 4611686018427387904
 g0 : 0 ≤ s.gen
 m0 : 0 ≤ s.mint
 most : 0 ≤ s.most ∧ s.most ≤ 4611686018427387904
 calm : 0 ≤ s.calm ∧ s.calm ≤ 1073741824
 xn : s.exit.Nodup
 xb : ∀ x ∈ s.exit, 0 ≤ x ∧ x < 128
 xl : s.exit.length ≤ 128
 fit : ∀ x ∈ s.members, mfitsB s.par x = true
theorem slH_of {v : SV} {s : StD} (hs : IsSt h v s) (hf : fitsS s = true) : SlH s := by
 simp only [fitsS, Bool.and_eq_true] at hf
 obtain ⟨⟨⟨⟨⟨⟨⟨⟨f1, f2⟩, f3⟩, f4⟩, f5⟩, f6⟩, f7⟩, f8⟩, f9⟩ := hf
 simp only [membersB, Bool.and_eq_true, decide_eq_true_eq, List.all_eq_true] at f5
 obtain ⟨⟨⟨f51, f52⟩, _⟩, f54⟩ := f5
 simp only [holdsB, Bool.and_eq_true, decide_eq_true_eq] at f9
 rw [wi_iff] at f3
 obtain ⟨r1, r2⟩ := row_iff.1 f54
 have xn := rowR_nodup s.exit.length (Nat.le_refl _) r1
 rw [List.take_length] at xn
 have u1 := hs.ok.u s.gen (by simp)
 have u2 := hs.ok.u s.mint (by simp)
 have u3 := hs.ok.u s.most (by simp)
 have hbig := parR_big f1
 have hfit : ∀ x ∈ s.members, mfitsB s.par x = true := fun x hx => (f52 x hx).1
 have hxl : s.exit.length ≤ 128 := by
  rw [rowB, Bool.and_eq_true, decide_eq_true_eq] at f54
  rw [f54.2]
  exact Nat.le_trans (cntS_le _ _ _) f51
 refine ⟨f1, hs.ok.p, hs.mo, f51, ?_, ⟨by omega, by omega⟩, u1.1, u2.1, ⟨u3.1, f9.1.2⟩, f3, xn, fun x hx => ?_, hxl, hfit⟩
 ·have hz : ∀ i, at0 ((cP s.members s.members.length).map (effI s.members)) i ≤ 1099511627776 := fun i => by
   by_cases c : i < ((cP s.members s.members.length).map (effI s.members)).length
   ·rw [← at0_lt c, List.getElem_map]
    have hm := List.getElem_mem (l := cP s.members s.members.length) (by simpa using c)
    generalize (cP s.members s.members.length)[i]'(by simpa using c) = j at hm
    have hj := cP_lt hm
    have hc := cP_cnt hm
    have hf := hfit (gr zeroM s.members j) (by rw [gr_lt hj]; exact List.getElem_mem hj)
    simp only [cntB, decide_eq_true_eq] at hc
    simp only [mfitsB, Bool.and_eq_true, shapeB, if_pos hc] at hf
    have hg := hf.2.2
    simp only [gfitsP, Bool.and_eq_true, decide_eq_true_eq] at hg
    have h2 := hg.1.1.2
    show (gr zeroM s.members j).eff ≤ _
    omega
   ·rw [at0_ge (by omega)]; decide
  have h1 := tot_le hz ((cP s.members s.members.length).map (effI s.members)).length
  have h2 := cP_len s.members s.members.length
  show tot _ ≤ _
  rw [tot]
  rw [List.length_map] at h1 ⊢
  omega
 ·obtain ⟨i, hi, rfl⟩ := List.mem_iff_getElem.1 hx
  have := r1 i hi
  simp only [rowR1, Bool.and_eq_true, wi_iff] at this
  rw [at0_lt hi]
  omega
theorem after_ok {p : ParD} (ok : ParOk p) (hr : parR p = true) {m : MemD} (mo : MemOk m) (there : Bool) (mode : Int) : MemOk (afterM p m there mode) := by
 have hs := parR_streak hr
 have us := mo.u m.score (by simp)
 have un := mo.n m.streak (by simp)
 have ur := ok.w p.recover (by simp [wides])
 have u1 := ok.w p.bias (by simp [wides])
 have u2 := ok.w p.biasEm (by simp [wides])
 have u3 := ok.w p.scoreCap (by simp [wides])
 cases there with
 | true =>
  rw [after_t]
  refine ⟨fun z hz => ?_, fun z hz => ?_⟩
  ·simp only [List.mem_cons, List.not_mem_nil, or_false] at hz
   rcases hz with rfl | rfl | rfl
   ·exact mo.u _ (by simp)
   ·exact mo.u _ (by simp)
   ·unfold fallP; split <;> omega
  ·simp only [List.mem_cons, List.not_mem_nil, or_false] at hz
   rcases hz with rfl | rfl | rfl
   ·unfold strP; split <;> omega
   ·exact mo.n _ (by simp)
   ·exact mo.n _ (by simp)
 | false =>
  rw [after_f]
  refine ⟨fun z hz => ?_, fun z hz => ?_⟩
  ·simp only [List.mem_cons, List.not_mem_nil, or_false] at hz
   rcases hz with rfl | rfl | rfl
   ·exact mo.u _ (by simp)
   ·exact mo.u _ (by simp)
   ·unfold scoA riseP; split
    ·omega
    ·split <;> omega
  ·simp only [List.mem_cons, List.not_mem_nil, or_false] at hz
   rcases hz with rfl | rfl | rfl
   ·omega
   ·exact mo.n _ (by simp)
   ·exact mo.n _ (by simp)
theorem now_ok {s : StD} (H : SlH s) {i : Nat} (hi : i < s.members.length) : MemOk (nowM s i) :=
 after_ok H.ok H.r (H.mo _ (by rw [gr_lt hi]; exact List.getElem_mem hi)) _ _
abbrev shB (bh : Nat) (s : StD) (v : SV) (mode act : Int) (sl nw : Value) : Blk := ⟨bh, 98, stC s v ++ [.int .i64 mode, .int .u64 act, sl, nw], 45⟩
def slK (s : StD) (k : Nat) : List Value := ((cP s.members k).map (slip0 s)).flatMap slC
def nwK (s : StD) (k : Nat) : List Value := ((cP s.members k).map (nowM s)).flatMap sdC
theorem slK_len (s : StD) (k : Nat) : (slK s k).length = (cP s.members k).length * 8 := by
 unfold slK; rw [flatG_len slC_len, List.length_map]
theorem nwK_len (s : StD) (k : Nat) : (nwK s k).length = (cP s.members k).length * 4 := by
 unfold nwK; rw [flatG_len sdC_len, List.length_map]
theorem sweigh_any {s : StD} (v : SV) (hs0 : IsSt h v s) (H : SlH s) (few : s.marks.length ≤ 1000) (bh : Nat)
  (hk : ∀ h' o1 o2, PH.le h h' → okO o1 (cI s).length → okO o2 (cI s).length → K (.tuple #[]) (shB bh s v (modeS s) (actS s) (ovs o1 (cI s).length) (ovs o2 (cI s).length) :: oent 42 8 o1 (slK s s.members.length) (oent 89 4 o2 (nwK s s.members.length) L)) h') :
  Spec Tryz.prog 31 [.pointer (some ⟨bh, 0, none⟩)] (shB bh s v 0 0 (.slice none 0 0) (.slice none 0 0) :: L) h K := by
 have hs := hs0
 obtain ⟨pa, pc, ma, mc, ea, ec, xa, xc, oa, oc, da, dc, ta, tc, ka, kc, ra, rc, rfl⟩ := hs.slices
 have hkv := hs0.k
 have hmv := hs0.m
 have hA := H.act
 have hP := pre_le (ks := s.marks) H.mo
 have hl := H.len
 simp only [shB, stC, List.cons_append, List.nil_append] at hk ⊢
 refine x_enterA Tryz.func31 rfl (rs := []) rfl rfl mixed (by kernel_rfl) rfl rfl fun ap nd => ?_
 have hbh : h bh = noC := ap.1
 clear ap nd
 simp -dsimp -implicitDefEqProofs (disch := first|with_reducible assumption|omega) [go_sem]
 refine xanyl (.tk 0 (.tk 1 (.tk 2 (.tk 3 (.tk 5 (.tk 6 (.tk 7 (.tk 8 (.tkl 4 (.tkl 9 (.or true 10 (.tk 11 (.tk 12 (.tk 13 (.tk 14 (.tk 15 (.tk 16 (.tk 17 (.fin)))))))) (.nil)))))))))))) (by kernel_rfl) (by kernel_rfl) _ (Drop.refl _ _) ?_
 simp -dsimp -implicitDefEqProofs (disch := first|with_reducible assumption|omega) [go_sem]
 refine Spec.ap (mstakes_any (l := s.members) (ks := s.marks) _ _ hmv H.mo hkv (by omega) (by show actS s ≤ _; omega) fun h1 le1 ap => ?_)
 simp only [Ap] at ap
 have hbh1 := ap.1
 clear ap
 refine xkp (Drop.forget le1) ?_
 simp -dsimp -implicitDefEqProofs (disch := first|with_reducible assumption|omega) [go_sem]
 refine xanyl (.tk 0 (.tk 1 (.tk 2 (.tk 3 (.tk 5 (.tk 6 (.tk 7 (.tk 8 (.tk 10 (.tk 11 (.tkl 4 (.tkl 9 (.or true 12 (.tk 13 (.tk 14 (.tk 15 (.tk 16 (.tk 17 (.fin)))))) (.nil)))))))))))))) (by kernel_rfl) (by kernel_rfl) _ (Drop.refl _ _) ?_
 simp -dsimp -implicitDefEqProofs (disch := first|with_reducible assumption|omega) [go_sem]
 have hcalm := H.calm
 refine mstep_any s.par s.calm (preL s.members s.marks) (actL s.members) (by have := hP; have : actS s = actL s.members := rfl; omega) (by have := hP; have : actS s = actL s.members := rfl; omega) (by omega) ?_
 refine xkp (Drop.refl _ _) ?_
 simp -dsimp -implicitDefEqProofs (disch := first|with_reducible assumption|omega) [go_sem]
 refine xanyl (.tk 0 (.tk 1 (.tk 2 (.tk 3 (.tk 4 (.tk 5 (.tk 7 (.tk 8 (.tk 9 (.tk 10 (.tk 11 (.tk 14 (.tkl 6 (.tkl 12 (.or true 13 (.tk 15 (.tk 16 (.or false 17 (.tk 18 (.tk 19 (.or false 20 (.fin) (.nil)))) (.nil)))) (.nil)))))))))))))))) (by kernel_rfl) (by kernel_rfl) _ (Drop.refl _ _) ?_
 simp -dsimp -implicitDefEqProofs (disch := first|with_reducible assumption|omega) [go_sem]
 refine mof_any s.par _ s.emer ?_
 refine xkp (Drop.refl _ _) ?_
 simp -dsimp -implicitDefEqProofs (disch := first|with_reducible assumption|omega) [go_sem]
 rw [show modeP s.par.delay (stepP s.calm (preL s.members s.marks) (actL s.members)).1 s.emer = modeS s from rfl, show actL s.members = actS s from rfl]
 have hd1 : Recs memC 6 h1 (.slice ma s.members.length mc) s.members := hmv.up le1
 have hk1 : Ints h1 .u8 (.slice ka s.marks.length kc) s.marks := hkv.up le1
 refine xloop (γ := Nat × Option (Nat × Nat) × Option (Nat × Nat)) (0, none, none) (fun q => q.1 ≤ s.members.length ∧ okO q.2.1 (cP s.members q.1).length ∧ okO q.2.2 (cP s.members q.1).length)
  (fun q => [(66, .int .i64 q.1), (65, .int .i64 s.members.length), (64, .slice ma s.members.length mc), (0, .pointer (some ⟨bh, 0, none⟩))])
  (fun q => shB bh s ⟨.slice pa s.purses.length pc, .slice ma s.members.length mc, .slice ea s.entry.length ec, .slice xa s.exit.length xc, .slice oa s.pool.length oc, .slice da s.dues.length dc, .slice ta s.motions.length tc, .slice ka s.marks.length kc, .slice ra s.ring.length rc⟩ (modeS s) (actS s) (ovs q.2.1 (cP s.members q.1).length) (ovs q.2.2 (cP s.members q.1).length) :: oent 42 8 q.2.1 (slK s q.1) (oent 89 4 q.2.2 (nwK s q.1) L)) (fun _ => h1) (fun q => s.members.length - q.1) ?_ ?_ ?_ ?_
 ·exact ⟨Nat.zero_le _, rfl, rfl⟩
 ·simp [Ent, List.lookup, xEnv]
 ·exact Drop.refl _ _
 rintro ⟨k, o1, o2⟩ ⟨i1, i2, i3⟩
 simp only [shB, stC, List.cons_append, List.nil_append] at i1 i2 i3 ⊢
 by_cases c1 : k < s.members.length
 ·have hcn : (cP s.members k).length ≤ k := cP_len s.members k
  have hs1 := cP_succ s.members k
  have hmo : MemOk (gr zeroM s.members k) := H.mo _ (by rw [gr_lt c1]; exact List.getElem_mem c1)
  simp -dsimp -implicitDefEqProofs (disch := first|with_reducible assumption|omega) [go_sem, ↓idxR zeroM (by decide) hd1, memC]
  refine xnew fun b7 n_b7 h_b7 => ?_
  try simp only [Apart] at n_b7
  have nb7 := n_b7.1
  clear n_b7
  simp -dsimp -implicitDefEqProofs (disch := first|with_reducible assumption|omega) [go_sem, memC]
  refine counts_any (gr zeroM s.members k) ?_
  by_cases c2 : cntB (gr zeroM s.members k) = true
  ·have c2' : (gr zeroM s.members k).status = 2 ∨ (gr zeroM s.members k).status = 3 := by simpa [cntB] using c2
   rw [decide_eq_true c2']
   rw [if_pos c2] at hs1
   have e1 : slK s k ++ slC (slip0 s k) = slK s (k + 1) := by unfold slK; rw [hs1, List.map_append, List.flatMap_append]; simp
   have e2 : nwK s k ++ sdC (nowM s k) = nwK s (k + 1) := by unfold nwK; rw [hs1, List.map_append, List.flatMap_append]; simp
   have e3 : (cP s.members k).length + 1 = (cP s.members (k + 1)).length := by rw [hs1]; simp
   simp -dsimp -implicitDefEqProofs (disch := first|with_reducible assumption|omega) [go_sem]
   refine get_any (bs := s.marks) _ k hk1 (by omega) ?_
   simp -dsimp -implicitDefEqProofs (disch := first|with_reducible assumption|omega) [go_sem]
   refine xnew fun b8 n_b8 h_b8 => ?_
   try simp only [Apart] at n_b8
   have nb8 : b7 ≠ b8 ∧ bh ≠ b8 := ⟨n_b8.1, n_b8.2.1⟩
   clear n_b8
   simp -dsimp -implicitDefEqProofs (disch := first|with_reducible assumption|omega) [go_sem]
   refine xappend (t := 37) (e := 42) (sz := 8) (bytes := 64) (by kernel_rfl) tI_42 rfl rfl rfl rfl (by decide) [_, _, _] _ o1 (cP s.members k).length (slK s k) i2 (slK_len _ _) (Src.own List.mem_cons_self) (m := 1) (news := slC (slip0 s k)) rfl (by intro u hu; simp only [slC, List.mem_cons, List.not_mem_nil, or_false] at hu; rcases hu with rfl | rfl | rfl | rfl | rfl | rfl | rfl | rfl <;> rfl) (by simp [maxLen]; omega) (by omega) ?_
   intro o1' j1 j2 j3
   rw [e3] at j1
   rw [e1, e3]
   simp -dsimp -implicitDefEqProofs (disch := first|with_reducible assumption|omega) [go_sem]
   refine xanyl (.tk 0 (.tk 1 (.tk 2 (.tk 3 (.tk 5 (.tk 6 (.tk 7 (.tk 8 (.tk 10 (.tk 12 (.tk 13 (.tk 14 (.tk 15 (.tkl 4 (.tkl 9 (.tkl 11 (.tkl 16 (.or true 17 (.or true 18 (.or true 19 (.tk 20 (.tk 21 (.or false 22 (.fin) (.nil)))) (.nil)) (.nil)) (.nil))))))))))))))))))) (by kernel_rfl) (by kernel_rfl) _ (drop_left [_, _, _] _ _) ?_
   simp -dsimp -implicitDefEqProofs (disch := first|with_reducible assumption|omega) [go_sem]
   refine safter_any s.par H.ok H.r (gr zeroM s.members k) hmo (getB s.marks k) (modeS s) ?_
   rw [show afterM s.par (gr zeroM s.members k) (getB s.marks k) (modeS s) = nowM s k from rfl]
   refine xkp (drop_left [_, _, _] _ _) ?_
   simp -dsimp -implicitDefEqProofs (disch := first|with_reducible assumption|omega) [go_sem]
   refine xnew fun b9 n_b9 h_b9 => ?_
   try simp only [Apart] at n_b9
   refine xkp ((Drop.tail _ _ _).trans (drop_left [_, _, _] _ _)) ?_
   have nb9 : b8 ≠ b9 ∧ b7 ≠ b9 ∧ bh ≠ b9 := ⟨n_b9.1, n_b9.2.1, n_b9.2.2.1⟩
   clear n_b9
   simp -dsimp -implicitDefEqProofs (disch := first|with_reducible assumption|omega) [go_sem]
   rw [oent_splitV (e := 42) o1']
   refine xappend (t := 96) (e := 89) (sz := 4) (bytes := 32) (by kernel_rfl) tI_89 rfl rfl rfl rfl (by decide) (_ :: _ :: _ :: _ :: oent 42 8 o1' _ []) _ o2 (cP s.members k).length (nwK s k) i3 (nwK_len _ _) (Src.own List.mem_cons_self) (m := 1) (news := sdC (nowM s k)) rfl (by intro u hu; simp only [sdC, List.mem_cons, List.not_mem_nil, or_false] at hu; rcases hu with rfl | rfl | rfl | rfl <;> rfl) (by simp [maxLen]; omega) (by omega) ?_
   intro o2' l1 l2 l3
   rw [e3] at l1
   rw [e2, e3]
   simp only [List.cons_append]
   rw [← oent_splitV (e := 42) o1']
   refine xkp ((Drop.tail _ _ _).trans (drop_left [_, _, _] _ _)) ?_
   simp -dsimp -implicitDefEqProofs (disch := first|with_reducible assumption|omega) [go_sem]
   exact ⟨k + 1, o1', o2', ⟨by omega, j1, l1⟩, by omega, by simp [Ent, List.lookup], (Drop.tail _ _ _).trans ((Drop.tail _ _ _).trans (Drop.tail _ _ _))⟩
  ·have c2' : ¬ ((gr zeroM s.members k).status = 2 ∨ (gr zeroM s.members k).status = 3) := by simpa [cntB] using c2
   rw [decide_eq_false c2']
   rw [if_neg c2] at hs1
   simp -dsimp -implicitDefEqProofs (disch := first|with_reducible assumption|omega) [go_sem]
   refine ⟨k + 1, o1, o2, ⟨by omega, by rw [hs1]; exact i2, by rw [hs1]; exact i3⟩, by omega, by simp [Ent, List.lookup], ?_⟩
   unfold slK nwK
   rw [hs1]
   exact Drop.tail _ _ _
 ·obtain rfl : k = s.members.length := by omega
  simp -dsimp -implicitDefEqProofs (disch := first|with_reducible assumption|omega) [go_sem]
  exact fin_here (hk h1 o1 o2 le1 i2 i3)
end Go.X

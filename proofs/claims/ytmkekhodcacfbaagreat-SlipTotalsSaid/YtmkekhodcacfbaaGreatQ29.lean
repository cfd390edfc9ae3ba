/- Lemmas and contracts for a statement about the given program. Conditions: as each says. -/
import Derived.Test.YtmkekhodcacfbaaGreatQ16
import Derived.Test.YtmkekhodcacfbaaGreatQ18
import Derived.Test.YtmkekhodcacfbaaGreatQ25
import Derived.Test.YtmkekhodcacfbaaGreatQ27
import Derived.Test.YtmkekhodcacfbaaGreatQ28
set_option linter.unusedVariables false
set_option linter.unusedSimpArgs false
set_option maxHeartbeats 12800000
set_option maxRecDepth 20000
namespace Go.X
open Go.RowKit Go.Proofs Go.Bl
variable {L : Own} {h : PH} {K : PK}
def cntB (m : MemD) : Bool := decide (m.status = 2 ∨ m.status = 3)
def cP (l : List MemD) (i : Nat) : List Nat := (List.range i).filter fun j => cntB (gr zeroM l j)
theorem cP_succ (l : List MemD) (i : Nat) : cP l (i + 1) = if cntB (gr zeroM l i) then cP l i ++ [i] else cP l i := by
 unfold cP
 rw [List.range_succ, List.filter_append]
 by_cases c : cntB (gr zeroM l i) = true
 ·simp [c]
 ·simp [c]
theorem cP_lt {l : List MemD} {i j : Nat} (hj : j ∈ cP l i) : j < i := by
 unfold cP at hj
 exact List.mem_range.1 (List.mem_filter.1 hj).1
theorem cP_len (l : List MemD) (i : Nat) : (cP l i).length ≤ i := by
 have := List.length_filter_le (fun j => cntB (gr zeroM l j)) (List.range i)
 rwa [List.length_range] at this
theorem cP_cnt {l : List MemD} {i j : Nat} (hj : j ∈ cP l i) : cntB (gr zeroM l j) = true := by
 unfold cP at hj
 exact (List.mem_filter.1 hj).2
def thI (l : List MemD) (ks : List Int) (i : Nat) : List Nat := (cP l i).filter fun (j : Nat) => getB ks j
theorem thI_len (l : List MemD) (ks : List Int) (i : Nat) : (thI l ks i).length ≤ i := Nat.le_trans (List.length_filter_le _ _) (cP_len l i)
theorem thI_succ (l : List MemD) (ks : List Int) (i : Nat) : thI l ks (i + 1) = if cntB (gr zeroM l i) && getB ks i then thI l ks i ++ [i] else thI l ks i := by
 unfold thI
 rw [cP_succ]
 by_cases c : cntB (gr zeroM l i) = true
 ·by_cases c2 : getB ks i = true
  ·simp [c, c2]
  ·simp [c, c2]
 ·simp [c]
def effI (l : List MemD) (i : Nat) : Int := (gr zeroM l i).eff
def actL (l : List MemD) : Int := tot ((cP l l.length).map (effI l))
def preL (l : List MemD) (ks : List Int) : Int := tot ((thI l ks l.length).map (effI l))
theorem tot_cons' (x : Int) (xs : List Int) : tot (x :: xs) = x + tot xs := by
 have : ∀ k, sumK (x :: xs) (k + 1) = x + sumK xs k := fun k => by
  induction k with
  | zero => simp [sumK, at0]
  | succ k ih => rw [sumK, ih, sumK]; simp only [at0, List.getD_cons_succ]; omega
 exact this xs.length
theorem tot_filter {α : Type} (f : α → Int) (q : α → Bool) : ∀ (xs : List α), (∀ x ∈ xs, 0 ≤ f x) → 0 ≤ tot ((xs.filter q).map f) ∧ tot ((xs.filter q).map f) ≤ tot (xs.map f)
 | [], _ => ⟨Int.le_refl _, Int.le_refl _⟩
 | x :: xs, h0 => by
  have ih := tot_filter f q xs fun y hy => h0 y (List.mem_cons_of_mem _ hy)
  have hx := h0 x List.mem_cons_self
  rw [List.filter_cons]
  split
  ·rw [List.map_cons, List.map_cons, tot_cons', tot_cons']; omega
  ·rw [List.map_cons, tot_cons']; omega
theorem eff_ok {l : List MemD} (hm : ∀ x ∈ l, MemOk x) (i : Nat) : 0 ≤ effI l i ∧ effI l i ≤ 18446744073709551615 := by
 unfold effI
 by_cases c : i < l.length
 ·rw [gr_lt c]
  exact (hm _ (List.getElem_mem c)).u _ (by simp)
 ·have : gr zeroM l i = zeroM := by
   unfold gr
   rw [List.getD_eq_getElem?_getD, List.getElem?_eq_none (by omega)]; rfl
  rw [this]; decide
theorem pre_le {l : List MemD} {ks : List Int} (hm : ∀ x ∈ l, MemOk x) : 0 ≤ preL l ks ∧ preL l ks ≤ actL l := tot_filter _ _ _ fun x _ => (eff_ok hm x).1
def thB (s : StD) (i : Nat) : Bool := getB s.marks i
def cI (s : StD) : List Nat := cP s.members s.members.length
def preS (s : StD) : Int := preL s.members s.marks
def actS (s : StD) : Int := actL s.members
def modeS (s : StD) : Int := modeP s.par.delay (stepP s.calm (preS s) (actS s)).1 s.emer
def nowM (s : StD) (i : Nat) : MemD := afterM s.par (gr zeroM s.members i) (thB s i) (modeS s)
def wsS (s : StD) : List Int := ((thI s.members s.marks s.members.length).map (nowM s)).map (weightP s.par)
def mintS (s : StD) : Int := mintP s.par (actS s) (s.gen + s.mint) s.most (modeS s)
def partsS (s : StD) : List Int := splitL (mintS s) (tot (wsS s)) (wsS s)
def prizeS (s : StD) (i : Nat) : Int := at0 (partsS s) (thI s.members s.marks i).length
def payS (s : StD) (i : Nat) : MemD × Int := payM s.par (nowM s i) (prizeS s i)
def fineS (s : StD) (i : Nat) : Int := fineP s.par (nowM s i) (modeS s)
structure SlD where
 mem : Int
 there : Bool
 prize : Int
 over : Int
 fine : Int
 burned : Int
 ends : Int
 paid : Int
 deriving DecidableEq
def zeroSl : SlD := ⟨0, false, 0, 0, 0, 0, 0, 0⟩
def slC (x : SlD) : List Value := [.int .i64 x.mem, .bool x.there, .int .u64 x.prize, .int .u64 x.over, .int .u64 x.fine, .int .u64 x.burned, .int .i64 x.ends, .int .u64 x.paid]
abbrev slV (x : SlD) : Value := .agg #[.int .i64 x.mem, .bool x.there, .int .u64 x.prize, .int .u64 x.over, .int .u64 x.fine, .int .u64 x.burned, .int .i64 x.ends, .int .u64 x.paid]
theorem slC_len (x : SlD) : (slC x).length = 8 := rfl
def slip0 (s : StD) (i : Nat) : SlD := ⟨i, thB s i, 0, 0, 0, 0, 0, 0⟩
def slip1 (s : StD) (i : Nat) : SlD := if thB s i then ⟨i, true, prizeS s i, (payS s i).2, 0, 0, 0, 0⟩ else ⟨i, false, 0, 0, fineS s i, burnP s.par (fineS s i), 0, 0⟩
def endM' (s : StD) (i : Nat) : MemD := if thB s i then (payS s i).1 else { nowM s i with bal := (nowM s i).bal - fineS s i }
def outB (s : StD) (i : Nat) : Bool := decide ((endM' s i).bal ≤ s.par.floor)
def exF (s : StD) (e : List Int) (l : List Nat) : List Int := l.foldl (fun e i => if outB s i then flt e i else e) e
def leftS (s : StD) : List Int := (exF s s.exit (cI s)).take s.par.churn.toNat
def endsS (s : StD) (i : Nat) : Int := if (i : Int) ∈ leftS s then 5 else if outB s i then 4 else 0
def slip2 (s : StD) (i : Nat) : SlD := { slip1 s i with ends := endsS s i, paid := if endsS s i ≠ 0 then (endM' s i).bal else 0 }
def slipsE (s : StD) : Int := if fitsS s then (if 1073741824 ≤ s.ep then 200 else 0) else 291
def slipsL (s : StD) : List SlD := if slipsE s = 0 then (cI s).map (slip2 s) else []
def efC (l : List MemD) (ix : List Nat) : List Value := (ix.map (effI l)).map (.int .u64)
theorem efC_len (l : List MemD) (ix : List Nat) : (efC l ix).length = ix.length * 1 := by simp [efC]
theorem efC_snoc (l : List MemD) (ix : List Nat) (k : Nat) : efC l (ix ++ [k]) = efC l ix ++ [.int .u64 (effI l k)] := by simp [efC]
theorem ef_ints {l : List MemD} (hm : ∀ x ∈ l, MemOk x) {ix : List Nat} {h : PH} {v : Value} (sl : Sl h v ix.length 1 (efC l ix)) : Ints h .u64 v (ix.map (effI l)) := by
 refine ⟨by rw [List.length_map]; exact sl, fun z hz => ?_⟩
 obtain ⟨i, _, rfl⟩ := List.mem_map.1 hz
 rw [show IntKind.u64.min = 0 by decide, show IntKind.u64.max = 18446744073709551615 by decide]
 exact eff_ok hm i
theorem oent_splitV {e sz : Nat} (o : Option (Nat × Nat)) (xs : List Value) (L : Own) : oent e sz o xs L = oent e sz o xs [] ++ L := by cases o <;> rfl
theorem mstakes_any {l : List MemD} {ks : List Int} (v kv : Value) (hd0 : Recs memC 6 h v l) (hm : ∀ x ∈ l, MemOk x) (hkv : Ints h .u8 kv ks) (hn : l.length ≤ 1000) (hA : actL l ≤ 18446744073709551615)
  (hk : ∀ h', PH.le h h' → K (.tuple #[.int .u64 (preL l ks), .int .u64 (actL l), .int .i64 0]) L h') : Spec Tryz.prog 121 [v, kv] L h K := by
 have hP := pre_le (ks := ks) hm
 have hkv0 := hkv
 obtain ⟨a, c, rfl, hc, hl, _, hd⟩ := hd0.open
 obtain ⟨ka, kc, rfl, _⟩ := hkv.open
 refine x_enter Tryz.func121 rfl (rs := [_, _, _]) rfl rfl mixed (by kernel_rfl) rfl rfl ?_
 simp -dsimp -implicitDefEqProofs (disch := first|with_reducible assumption|omega) [go_sem]
 refine xloop (γ := Nat × Option (Nat × Nat) × Option (Nat × Nat)) (0, none, none) (fun s => s.1 ≤ l.length ∧ okO s.2.1 (cP l s.1).length ∧ okO s.2.2 (thI l ks s.1).length ∧ apO s.2.1 (oent 22 1 s.2.2 (efC l (thI l ks s.1)) L) h ∧ apO s.2.2 L h)
  (fun s => [(13, .int .i64 s.1), (12, .int .i64 l.length), (11, .slice a l.length c), (8, ovs s.2.1 (cP l s.1).length), (7, ovs s.2.2 (thI l ks s.1).length), (1, .slice ka ks.length kc)])
  (fun s => oent 22 1 s.2.1 (efC l (cP l s.1)) (oent 22 1 s.2.2 (efC l (thI l ks s.1)) L)) (fun _ => h) (fun s => l.length - s.1) ?_ ?_ ?_ ?_
 ·exact ⟨Nat.zero_le _, rfl, rfl, trivial, trivial⟩
 ·simp [Ent, List.lookup, xEnv, ovs, cP, thI]
 ·exact Drop.refl _ _
 rintro ⟨k, o1, o2⟩ ⟨i1, i2, i3, i4, i5⟩
 simp only at i1 i2 i3 i4 i5 ⊢
 by_cases c1 : k < l.length
 ·have hcn : (cP l k).length ≤ k := cP_len l k
  have htn : (thI l ks k).length ≤ k := thI_len l ks k
  have hs1 := cP_succ l k
  have hs2 := thI_succ l ks k
  simp -dsimp -implicitDefEqProofs (disch := first|with_reducible assumption|omega) [go_sem, ↓idxR zeroM (by decide) hd, memC]
  refine xnew fun b7 n_b7 h_b7 => ?_
  try simp only [Apart] at n_b7
  have n7 := apart_oent (apart_oent n_b7)
  simp -dsimp -implicitDefEqProofs (disch := first|with_reducible assumption|omega) [go_sem, memC]
  refine counts_any (gr zeroM l k) ?_
  by_cases c2 : cntB (gr zeroM l k) = true
  ·have c2' : (gr zeroM l k).status = 2 ∨ (gr zeroM l k).status = 3 := by simpa [cntB] using c2
   rw [decide_eq_true c2']
   rw [if_pos c2] at hs1
   rw [c2, Bool.true_and] at hs2
   simp -dsimp -implicitDefEqProofs (disch := first|with_reducible assumption|omega) [go_sem, memC]
   refine xnew fun b8 n_b8 h_b8 => ?_
   try simp only [Apart] at n_b8
   simp -dsimp -implicitDefEqProofs (disch := first|with_reducible assumption|omega) [go_sem]
   refine xappend (t := 25) (e := 22) (sz := 1) (bytes := 8) (by kernel_rfl) tI_22 rfl rfl rfl rfl (by decide) [_, _] _ o1 (cP l k).length (efC l (cP l k)) i2 (efC_len _ _) (Src.own List.mem_cons_self) (m := 1) (news := [.int .u64 (gr zeroM l k).eff]) rfl (by intro u hu; simp only [List.mem_singleton] at hu; subst hu; rfl) (by simp [maxLen]; omega) (by omega) ?_
   intro o1' j1 j2 j3
   have j4 := apO_tail (apO_tail j2)
   have e1 : efC l (cP l k) ++ [.int .u64 (gr zeroM l k).eff] = efC l (cP l (k + 1)) := by rw [hs1, efC_snoc]; rfl
   have e2 : (cP l k).length + 1 = (cP l (k + 1)).length := by rw [hs1]; simp
   rw [e2] at j1 ⊢
   rw [e1]
   simp -dsimp -implicitDefEqProofs (disch := first|with_reducible assumption|omega) [go_sem]
   refine get_any (bs := ks) _ k hkv0 (by omega) ?_
   by_cases c3 : getB ks k = true
   ·rw [if_pos c3] at hs2
    rw [c3]
    simp -dsimp -implicitDefEqProofs (disch := first|with_reducible assumption|omega) [go_sem]
    refine xnew fun b9 n_b9 h_b9 => ?_
    try simp only [Apart] at n_b9
    simp -dsimp -implicitDefEqProofs (disch := first|with_reducible assumption|omega) [go_sem]
    rw [oent_splitV (e := 22) o1']
    refine xappend (t := 25) (e := 22) (sz := 1) (bytes := 8) (by kernel_rfl) tI_22 rfl rfl rfl rfl (by decide) (_ :: _ :: _ :: oent 22 1 o1' _ []) _ o2 (thI l ks k).length (efC l (thI l ks k)) i3 (efC_len _ _) (Src.own List.mem_cons_self) (m := 1) (news := [.int .u64 (gr zeroM l k).eff]) rfl (by intro u hu; simp only [List.mem_singleton] at hu; subst hu; rfl) (by simp [maxLen]; omega) (by omega) ?_
    intro o2' l1 l2 l3
    have l4 := apO_tail (apO_tail (apO_tail l2))
    have l5 := apO_swap (e2 := 22) (sz2 := 1) (cs2 := efC l (thI l ks (k + 1))) (apO_oent j4) l4
    have e3 : efC l (thI l ks k) ++ [.int .u64 (gr zeroM l k).eff] = efC l (thI l ks (k + 1)) := by rw [hs2, efC_snoc]; rfl
    have e4 : (thI l ks k).length + 1 = (thI l ks (k + 1)).length := by rw [hs2]; simp
    rw [e4] at l1 ⊢
    rw [e3]
    simp -dsimp -implicitDefEqProofs (disch := first|with_reducible assumption|omega) [go_sem]
    refine ⟨k + 1, o1', o2', ⟨by omega, j1, l1, l5.1, l5.2⟩, by omega, by simp [Ent, List.lookup], ?_⟩
    rw [← oent_splitV]
    exact (Drop.tail _ _ _).trans ((Drop.tail _ _ _).trans (Drop.tail _ _ _))
   ·rw [if_neg c3] at hs2
    rw [show getB ks k = false by simpa using c3]
    simp -dsimp -implicitDefEqProofs (disch := first|with_reducible assumption|omega) [go_sem]
    refine ⟨k + 1, o1', o2, ⟨by omega, j1, by rw [hs2]; exact i3, by rw [hs2]; exact j4, i5⟩, by omega, by simp [Ent, List.lookup, hs2], ?_⟩
    rw [hs2]
    exact (Drop.tail _ _ _).trans (Drop.tail _ _ _)
  ·have c2' : ¬ ((gr zeroM l k).status = 2 ∨ (gr zeroM l k).status = 3) := by simpa [cntB] using c2
   rw [decide_eq_false c2']
   rw [if_neg c2] at hs1
   rw [show cntB (gr zeroM l k) = false by simpa using c2, Bool.false_and] at hs2
   simp only [Bool.false_eq_true, if_false] at hs2
   simp -dsimp -implicitDefEqProofs (disch := first|with_reducible assumption|omega) [go_sem]
   refine ⟨k + 1, o1, o2, ⟨by omega, by rw [hs1]; exact i2, by rw [hs2]; exact i3, by rw [hs2]; exact i4, i5⟩, by omega, by simp [Ent, List.lookup, hs1, hs2], ?_⟩
   rw [hs1, hs2]
   exact Drop.tail _ _ _
 ·obtain rfl : k = l.length := by omega
  simp -dsimp -implicitDefEqProofs (disch := first|with_reducible assumption|omega) [go_sem]
  have hcn : (cP l l.length).length ≤ l.length := cP_len l l.length
  have htn : (thI l ks l.length).length ≤ l.length := thI_len l ks l.length
  rw [oent_splitV (e := 22) o1]
  refine call_pub_o (n := (thI l ks l.length).length) (oent 22 1 o1 (efC l (cP l l.length)) []) i3 (efC_len _ _) (by omega) (fun h1 le1 sl1 => ?_) ⟨Tryz.f69, Tryz.func69, by decide +kernel, rfl⟩
  rw [← oent_splitV (e := 22) o1]
  have it := ef_ints hm sl1
  refine msum_any _ it ?_
  rw [show tot ((thI l ks l.length).map (effI l)) = preL l ks from rfl, sumV_ok (by omega)]
  simp -dsimp -implicitDefEqProofs (disch := first|with_reducible assumption|omega) [go_sem]
  refine call_pub_o (n := (cP l l.length).length) [] i2 (efC_len _ _) (by omega) (fun h2 le2 sl2 => ?_) ⟨Tryz.f69, Tryz.func69, by decide +kernel, rfl⟩
  have ia := ef_ints hm sl2
  refine msum_any _ ia ?_
  rw [show tot ((cP l l.length).map (effI l)) = actL l from rfl, sumV_ok hA]
  simp -dsimp -implicitDefEqProofs (disch := first|with_reducible assumption|omega) [go_sem]
  exact fin_here (hk h2 (le1.trans le2))
structure SlH (s : StD) : Prop where
 r : parR s.par = true
 ok : ParOk s.par
 mo : ∀ x ∈ s.members, MemOk x
 len : s.members.length ≤ 128
 act : actS s ≤ 140737488355328
 gm : 0 ≤ s.gen + s.mint ∧ s.gen + s.mint ≤ 4611686018427387904
 g0 : 0 ≤ s.gen
 m0 : 0 ≤ s.mint
 most : 0 ≤ s.most ∧ s.most ≤ 4611686018427387904
 calm : 0 ≤ s.calm ∧ s.calm ≤ 1073741824
 xn : s.exit.Nodup
 xb : ∀ x ∈ s.exit, 0 ≤ x ∧ x < 128
 xl : s.exit.length ≤ 128
 fit : ∀ x ∈ s.members, mfitsB s.par x = true
theorem slH_of {v : SV} {s : StD} (hs : IsSt h v s) (hf : fitsS s = true) : SlH s := by
 simp only [fitsS, Bool.and_eq_true] at hf
 obtain ⟨⟨⟨⟨⟨⟨⟨⟨f1, f2⟩, f3⟩, f4⟩, f5⟩, f6⟩, f7⟩, f8⟩, f9⟩ := hf
 simp only [membersB, Bool.and_eq_true, decide_eq_true_eq, List.all_eq_true] at f5
 obtain ⟨⟨⟨f51, f52⟩, _⟩, f54⟩ := f5
 simp only [holdsB, Bool.and_eq_true, decide_eq_true_eq] at f9
 rw [wi_iff] at f3
 obtain ⟨r1, r2⟩ := row_iff.1 f54
 have xn := rowR_nodup s.exit.length (Nat.le_refl _) r1
 rw [List.take_length] at xn
 have u1 := hs.ok.u s.gen (by simp)
 have u2 := hs.ok.u s.mint (by simp)
 have u3 := hs.ok.u s.most (by simp)
 have hbig := parR_big f1
 have hfit : ∀ x ∈ s.members, mfitsB s.par x = true := fun x hx => (f52 x hx).1
 have hxl : s.exit.length ≤ 128 := by
  rw [rowB, Bool.and_eq_true, decide_eq_true_eq] at f54
  rw [f54.2]
  exact Nat.le_trans (cntS_le _ _ _) f51
 refine ⟨f1, hs.ok.p, hs.mo, f51, ?_, ⟨by omega, by omega⟩, u1.1, u2.1, ⟨u3.1, f9.1.2⟩, f3, xn, fun x hx => ?_, hxl, hfit⟩
 ·have hz : ∀ i, at0 ((cP s.members s.members.length).map (effI s.members)) i ≤ 1099511627776 := fun i => by
   by_cases c : i < ((cP s.members s.members.length).map (effI s.members)).length
   ·rw [← at0_lt c, List.getElem_map]
    have hm := List.getElem_mem (l := cP s.members s.members.length) (by simpa using c)
    generalize (cP s.members s.members.length)[i]'(by simpa using c) = j at hm
    have hj := cP_lt hm
    have hc := cP_cnt hm
    have hf := hfit (gr zeroM s.members j) (by rw [gr_lt hj]; exact List.getElem_mem hj)
    simp only [cntB, decide_eq_true_eq] at hc
    simp only [mfitsB, Bool.and_eq_true, shapeB, if_pos hc] at hf
    have hg := hf.2.2
    simp only [gfitsP, Bool.and_eq_true, decide_eq_true_eq] at hg
    have h2 := hg.1.1.2
    show (gr zeroM s.members j).eff ≤ _
    omega
   ·rw [at0_ge (by omega)]; decide
  have h1 := tot_le hz ((cP s.members s.members.length).map (effI s.members)).length
  have h2 := cP_len s.members s.members.length
  show tot _ ≤ _
  rw [tot]
  rw [List.length_map] at h1 ⊢
  omega
 ·obtain ⟨i, hi, rfl⟩ := List.mem_iff_getElem.1 hx
  have := r1 i hi
  simp only [rowR1, Bool.and_eq_true, wi_iff] at this
  rw [at0_lt hi]
  omega
theorem after_ok {p : ParD} (ok : ParOk p) (hr : parR p = true) {m : MemD} (mo : MemOk m) (there : Bool) (mode : Int) : MemOk (afterM p m there mode) := by
 have hs := parR_streak hr
 have us := mo.u m.score (by simp)
 have un := mo.n m.streak (by simp)
 have ur := ok.w p.recover (by simp [wides])
 have u1 := ok.w p.bias (by simp [wides])
 have u2 := ok.w p.biasEm (by simp [wides])
 have u3 := ok.w p.scoreCap (by simp [wides])
 cases there with
 | true =>
  rw [after_t]
  refine ⟨fun z hz => ?_, fun z hz => ?_⟩
  ·simp only [List.mem_cons, List.not_mem_nil, or_false] at hz
   rcases hz with rfl | rfl | rfl
   ·exact mo.u _ (by simp)
   ·exact mo.u _ (by simp)
   ·unfold fallP; split <;> omega
  ·simp only [List.mem_cons, List.not_mem_nil, or_false] at hz
   rcases hz with rfl | rfl | rfl
   ·unfold strP; split <;> omega
   ·exact mo.n _ (by simp)
   ·exact mo.n _ (by simp)
 | false =>
  rw [after_f]
  refine ⟨fun z hz => ?_, fun z hz => ?_⟩
  ·simp only [List.mem_cons, List.not_mem_nil, or_false] at hz
   rcases hz with rfl | rfl | rfl
   ·exact mo.u _ (by simp)
   ·exact mo.u _ (by simp)
   ·unfold scoA riseP; split
    ·omega
    ·split <;> omega
  ·simp only [List.mem_cons, List.not_mem_nil, or_false] at hz
   rcases hz with rfl | rfl | rfl
   ·omega
   ·exact mo.n _ (by simp)
   ·exact mo.n _ (by simp)
theorem now_ok {s : StD} (H : SlH s) {i : Nat} (hi : i < s.members.length) : MemOk (nowM s i) :=
 after_ok H.ok H.r (H.mo _ (by rw [gr_lt hi]; exact List.getElem_mem hi)) _ _
abbrev shB (bh : Nat) (s : StD) (v : SV) (mode act : Int) (sl nw : Value) : Blk := ⟨bh, 98, stC s v ++ [.int .i64 mode, .int .u64 act, sl, nw], 45⟩
def slK (s : StD) (k : Nat) : List Value := ((cP s.members k).map (slip0 s)).flatMap slC
def nwK (s : StD) (k : Nat) : List Value := ((cP s.members k).map (nowM s)).flatMap sdC
theorem slK_len (s : StD) (k : Nat) : (slK s k).length = (cP s.members k).length * 8 := by
 unfold slK; rw [flatG_len slC_len, List.length_map]
theorem nwK_len (s : StD) (k : Nat) : (nwK s k).length = (cP s.members k).length * 4 := by
 unfold nwK; rw [flatG_len sdC_len, List.length_map]
theorem sweigh_any {s : StD} (v : SV) (hs0 : IsSt h v s) (H : SlH s) (few : s.marks.length ≤ 1000) (bh : Nat)
  (hk : ∀ h' o1 o2, PH.le h h' → okO o1 (cI s).length → okO o2 (cI s).length → K (.tuple #[]) (shB bh s v (modeS s) (actS s) (ovs o1 (cI s).length) (ovs o2 (cI s).length) :: oent 42 8 o1 (slK s s.members.length) (oent 89 4 o2 (nwK s s.members.length) L)) h') :
  Spec Tryz.prog 31 [.pointer (some ⟨bh, 0, none⟩)] (shB bh s v 0 0 (.slice none 0 0) (.slice none 0 0) :: L) h K := by
 have hs := hs0
 obtain ⟨pa, pc, ma, mc, ea, ec, xa, xc, oa, oc, da, dc, ta, tc, ka, kc, ra, rc, rfl⟩ := hs.slices
 have hkv := hs0.k
 have hmv := hs0.m
 have hA := H.act
 have hP := pre_le (ks := s.marks) H.mo
 have hl := H.len
 simp only [shB, stC, List.cons_append, List.nil_append] at hk ⊢
 refine x_enterA Tryz.func31 rfl (rs := []) rfl rfl mixed (by kernel_rfl) rfl rfl fun ap nd => ?_
 have hbh : h bh = noC := ap.1
 clear ap nd
 simp -dsimp -implicitDefEqProofs (disch := first|with_reducible assumption|omega) [go_sem]
 refine xanyl (.tk 0 (.tk 1 (.tk 2 (.tk 3 (.tk 5 (.tk 6 (.tk 7 (.tk 8 (.tkl 4 (.tkl 9 (.or true 10 (.tk 11 (.tk 12 (.tk 13 (.tk 14 (.tk 15 (.tk 16 (.tk 17 (.fin)))))))) (.nil)))))))))))) (by kernel_rfl) (by kernel_rfl) _ (Drop.refl _ _) ?_
 simp -dsimp -implicitDefEqProofs (disch := first|with_reducible assumption|omega) [go_sem]
 refine Spec.ap (mstakes_any (l := s.members) (ks := s.marks) _ _ hmv H.mo hkv (by omega) (by show actS s ≤ _; omega) fun h1 le1 ap => ?_)
 simp only [Ap] at ap
 have hbh1 := ap.1
 clear ap
 refine xkp (Drop.forget le1) ?_
 simp -dsimp -implicitDefEqProofs (disch := first|with_reducible assumption|omega) [go_sem]
 refine xanyl (.tk 0 (.tk 1 (.tk 2 (.tk 3 (.tk 5 (.tk 6 (.tk 7 (.tk 8 (.tk 10 (.tk 11 (.tkl 4 (.tkl 9 (.or true 12 (.tk 13 (.tk 14 (.tk 15 (.tk 16 (.tk 17 (.fin)))))) (.nil)))))))))))))) (by kernel_rfl) (by kernel_rfl) _ (Drop.refl _ _) ?_
 simp -dsimp -implicitDefEqProofs (disch := first|with_reducible assumption|omega) [go_sem]
 have hcalm := H.calm
 refine mstep_any s.par s.calm (preL s.members s.marks) (actL s.members) (by have := hP; have : actS s = actL s.members := rfl; omega) (by have := hP; have : actS s = actL s.members := rfl; omega) (by omega) ?_
 refine xkp (Drop.refl _ _) ?_
 simp -dsimp -implicitDefEqProofs (disch := first|with_reducible assumption|omega) [go_sem]
 refine xanyl (.tk 0 (.tk 1 (.tk 2 (.tk 3 (.tk 4 (.tk 5 (.tk 7 (.tk 8 (.tk 9 (.tk 10 (.tk 11 (.tk 14 (.tkl 6 (.tkl 12 (.or true 13 (.tk 15 (.tk 16 (.or false 17 (.tk 18 (.tk 19 (.or false 20 (.fin) (.nil)))) (.nil)))) (.nil)))))))))))))))) (by kernel_rfl) (by kernel_rfl) _ (Drop.refl _ _) ?_
 simp -dsimp -implicitDefEqProofs (disch := first|with_reducible assumption|omega) [go_sem]
 refine mof_any s.par _ s.emer ?_
 refine xkp (Drop.refl _ _) ?_
 simp -dsimp -implicitDefEqProofs (disch := first|with_reducible assumption|omega) [go_sem]
 rw [show modeP s.par.delay (stepP s.calm (preL s.members s.marks) (actL s.members)).1 s.emer = modeS s from rfl, show actL s.members = actS s from rfl]
 have hd1 : Recs memC 6 h1 (.slice ma s.members.length mc) s.members := hmv.up le1
 have hk1 : Ints h1 .u8 (.slice ka s.marks.length kc) s.marks := hkv.up le1
 refine xloop (γ := Nat × Option (Nat × Nat) × Option (Nat × Nat)) (0, none, none) (fun q => q.1 ≤ s.members.length ∧ okO q.2.1 (cP s.members q.1).length ∧ okO q.2.2 (cP s.members q.1).length)
  (fun q => [(66, .int .i64 q.1), (65, .int .i64 s.members.length), (64, .slice ma s.members.length mc), (0, .pointer (some ⟨bh, 0, none⟩))])
  (fun q => shB bh s ⟨.slice pa s.purses.length pc, .slice ma s.members.length mc, .slice ea s.entry.length ec, .slice xa s.exit.length xc, .slice oa s.pool.length oc, .slice da s.dues.length dc, .slice ta s.motions.length tc, .slice ka s.marks.length kc, .slice ra s.ring.length rc⟩ (modeS s) (actS s) (ovs q.2.1 (cP s.members q.1).length) (ovs q.2.2 (cP s.members q.1).length) :: oent 42 8 q.2.1 (slK s q.1) (oent 89 4 q.2.2 (nwK s q.1) L)) (fun _ => h1) (fun q => s.members.length - q.1) ?_ ?_ ?_ ?_
 ·exact ⟨Nat.zero_le _, rfl, rfl⟩
 ·simp [Ent, List.lookup, xEnv]
 ·exact Drop.refl _ _
 rintro ⟨k, o1, o2⟩ ⟨i1, i2, i3⟩
 simp only [shB, stC, List.cons_append, List.nil_append] at i1 i2 i3 ⊢
 by_cases c1 : k < s.members.length
 ·have hcn : (cP s.members k).length ≤ k := cP_len s.members k
  have hs1 := cP_succ s.members k
  have hmo : MemOk (gr zeroM s.members k) := H.mo _ (by rw [gr_lt c1]; exact List.getElem_mem c1)
  simp -dsimp -implicitDefEqProofs (disch := first|with_reducible assumption|omega) [go_sem, ↓idxR zeroM (by decide) hd1, memC]
  refine xnew fun b7 n_b7 h_b7 => ?_
  try simp only [Apart] at n_b7
  have nb7 := n_b7.1
  clear n_b7
  simp -dsimp -implicitDefEqProofs (disch := first|with_reducible assumption|omega) [go_sem, memC]
  refine counts_any (gr zeroM s.members k) ?_
  by_cases c2 : cntB (gr zeroM s.members k) = true
  ·have c2' : (gr zeroM s.members k).status = 2 ∨ (gr zeroM s.members k).status = 3 := by simpa [cntB] using c2
   rw [decide_eq_true c2']
   rw [if_pos c2] at hs1
   have e1 : slK s k ++ slC (slip0 s k) = slK s (k + 1) := by unfold slK; rw [hs1, List.map_append, List.flatMap_append]; simp
   have e2 : nwK s k ++ sdC (nowM s k) = nwK s (k + 1) := by unfold nwK; rw [hs1, List.map_append, List.flatMap_append]; simp
   have e3 : (cP s.members k).length + 1 = (cP s.members (k + 1)).length := by rw [hs1]; simp
   simp -dsimp -implicitDefEqProofs (disch := first|with_reducible assumption|omega) [go_sem]
   refine get_any (bs := s.marks) _ k hk1 (by omega) ?_
   simp -dsimp -implicitDefEqProofs (disch := first|with_reducible assumption|omega) [go_sem]
   refine xnew fun b8 n_b8 h_b8 => ?_
   try simp only [Apart] at n_b8
   have nb8 : b7 ≠ b8 ∧ bh ≠ b8 := ⟨n_b8.1, n_b8.2.1⟩
   clear n_b8
   simp -dsimp -implicitDefEqProofs (disch := first|with_reducible assumption|omega) [go_sem]
   refine xappend (t := 37) (e := 42) (sz := 8) (bytes := 64) (by kernel_rfl) tI_42 rfl rfl rfl rfl (by decide) [_, _, _] _ o1 (cP s.members k).length (slK s k) i2 (slK_len _ _) (Src.own List.mem_cons_self) (m := 1) (news := slC (slip0 s k)) rfl (by intro u hu; simp only [slC, List.mem_cons, List.not_mem_nil, or_false] at hu; rcases hu with rfl | rfl | rfl | rfl | rfl | rfl | rfl | rfl <;> rfl) (by simp [maxLen]; omega) (by omega) ?_
   intro o1' j1 j2 j3
   rw [e3] at j1
   rw [e1, e3]
   simp -dsimp -implicitDefEqProofs (disch := first|with_reducible assumption|omega) [go_sem]
   refine xanyl (.tk 0 (.tk 1 (.tk 2 (.tk 3 (.tk 5 (.tk 6 (.tk 7 (.tk 8 (.tk 10 (.tk 12 (.tk 13 (.tk 14 (.tk 15 (.tkl 4 (.tkl 9 (.tkl 11 (.tkl 16 (.or true 17 (.or true 18 (.or true 19 (.tk 20 (.tk 21 (.or false 22 (.fin) (.nil)))) (.nil)) (.nil)) (.nil))))))))))))))))))) (by kernel_rfl) (by kernel_rfl) _ (drop_left [_, _, _] _ _) ?_
   simp -dsimp -implicitDefEqProofs (disch := first|with_reducible assumption|omega) [go_sem]
   refine safter_any s.par H.ok H.r (gr zeroM s.members k) hmo (getB s.marks k) (modeS s) ?_
   rw [show afterM s.par (gr zeroM s.members k) (getB s.marks k) (modeS s) = nowM s k from rfl]
   refine xkp (drop_left [_, _, _] _ _) ?_
   simp -dsimp -implicitDefEqProofs (disch := first|with_reducible assumption|omega) [go_sem]
   refine xnew fun b9 n_b9 h_b9 => ?_
   try simp only [Apart] at n_b9
   refine xkp ((Drop.tail _ _ _).trans (drop_left [_, _, _] _ _)) ?_
   have nb9 : b8 ≠ b9 ∧ b7 ≠ b9 ∧ bh ≠ b9 := ⟨n_b9.1, n_b9.2.1, n_b9.2.2.1⟩
   clear n_b9
   simp -dsimp -implicitDefEqProofs (disch := first|with_reducible assumption|omega) [go_sem]
   rw [oent_splitV (e := 42) o1']
   refine xappend (t := 96) (e := 89) (sz := 4) (bytes := 32) (by kernel_rfl) tI_89 rfl rfl rfl rfl (by decide) (_ :: _ :: _ :: _ :: oent 42 8 o1' _ []) _ o2 (cP s.members k).length (nwK s k) i3 (nwK_len _ _) (Src.own List.mem_cons_self) (m := 1) (news := sdC (nowM s k)) rfl (by intro u hu; simp only [sdC, List.mem_cons, List.not_mem_nil, or_false] at hu; rcases hu with rfl | rfl | rfl | rfl <;> rfl) (by simp [maxLen]; omega) (by omega) ?_
   intro o2' l1 l2 l3
   rw [e3] at l1
   rw [e2, e3]
   simp only [List.cons_append]
   rw [← oent_splitV (e := 42) o1']
   refine xkp ((Drop.tail _ _ _).trans (drop_left [_, _, _] _ _)) ?_
   simp -dsimp -implicitDefEqProofs (disch := first|with_reducible assumption|omega) [go_sem]
   exact ⟨k + 1, o1', o2', ⟨by omega, j1, l1⟩, by omega, by simp [Ent, List.lookup], (Drop.tail _ _ _).trans ((Drop.tail _ _ _).trans (Drop.tail _ _ _))⟩
  ·have c2' : ¬ ((gr zeroM s.members k).status = 2 ∨ (gr zeroM s.members k).status = 3) := by simpa [cntB] using c2
   rw [decide_eq_false c2']
   rw [if_neg c2] at hs1
   simp -dsimp -implicitDefEqProofs (disch := first|with_reducible assumption|omega) [go_sem]
   refine ⟨k + 1, o1, o2, ⟨by omega, by rw [hs1]; exact i2, by rw [hs1]; exact i3⟩, by omega, by simp [Ent, List.lookup], ?_⟩
   unfold slK nwK
   rw [hs1]
   exact Drop.tail _ _ _
 ·obtain rfl : k = s.members.length := by omega
  simp -dsimp -implicitDefEqProofs (disch := first|with_reducible assumption|omega) [go_sem]
  exact fin_here (hk h1 o1 o2 le1 i2 i3)
def mixL {α : Type} (f g : Nat → α) (C : List Nat) (k : Nat) : List α := (C.take k).map f ++ (C.drop k).map g
section
variable {α : Type} {f g : Nat → α} {C : List Nat} {k : Nat}
theorem mixL_len : (mixL f g C k).length = C.length := by simp [mixL]; omega
theorem mixL_0 : mixL f g C 0 = C.map g := by simp [mixL]
theorem mixL_all : mixL f g C C.length = C.map f := by simp [mixL]
theorem mixL_at (z : α) (hk : k < C.length) : gr z (mixL f g C k) k = g C[k] := by
 rw [gr_lt (by rw [mixL_len]; exact hk)]
 simp only [mixL]
 rw [List.getElem_append_right (by simp; omega)]
 simp only [List.length_map, List.length_take, List.getElem_map, List.getElem_drop]
 congr 2
 omega
theorem mixL_set (hk : k < C.length) : (mixL f g C k).set k (f C[k]) = mixL f g C (k + 1) := by
 have hl : ((C.take k).map f).length = k := by simp; omega
 have hd : C.drop k = C[k] :: C.drop (k + 1) := List.drop_eq_getElem_cons hk
 simp only [mixL]
 rw [List.set_append, if_neg (by omega), hl, Nat.sub_self, hd, List.map_cons, List.set_cons_zero, List.take_succ_eq_append_getElem hk, List.map_append]
 simp
theorem mixL_same (hk : k < C.length) (e : f C[k] = g C[k]) : mixL f g C (k + 1) = mixL f g C k := by
 rw [← mixL_set hk, e]
 apply List.ext_getElem?
 intro j
 rw [List.getElem?_set]
 by_cases c : k = j
 ·subst c
  have := mixL_at (f := f) (g := g) (g C[k]) hk
  rw [gr_lt (by rw [mixL_len]; exact hk)] at this
  rw [if_pos rfl, if_pos (by rw [mixL_len]; exact hk), List.getElem?_eq_getElem (by rw [mixL_len]; exact hk), this]
 ·rw [if_neg c]
end
theorem cP_at (l : List MemD) : ∀ (n k : Nat) (hk : k < (cP l n).length), cP l ((cP l n)[k]) = (cP l n).take k
 | 0, k, hk => by simp [cP] at hk
 | n + 1, k, hk => by
  have hs := cP_succ l n
  by_cases c : cntB (gr zeroM l n) = true
  ·rw [if_pos c] at hs
   by_cases c2 : k < (cP l n).length
   ·have ih := cP_at l n k c2
    have e : (cP l (n + 1))[k] = (cP l n)[k] := by simp only [hs]; exact List.getElem_append_left c2
    rw [e, ih, hs, List.take_append_of_le_length (by omega)]
   ·have hk2 : k = (cP l n).length := by rw [hs] at hk; simp at hk; omega
    have e : (cP l (n + 1))[k] = n := by simp only [hs]; rw [List.getElem_append_right (by omega)]; simp [hk2]
    rw [e, hs, List.take_append_of_le_length (by omega), List.take_of_length_le (by omega)]
  ·rw [if_neg c] at hs
   have e : (cP l (n + 1))[k] = (cP l n)[k]'(by rw [← hs]; exact hk) := by simp only [hs]
   rw [e, cP_at l n k (by rw [← hs]; exact hk), hs]
def slipP (s : StD) (i : Nat) : SlD := if thB s i then { slip0 s i with prize := prizeS s i, over := (payS s i).2 } else slip0 s i
def nowP (s : StD) (i : Nat) : MemD := if thB s i then (payS s i).1 else nowM s i
theorem there_at {s : StD} {k : Nat} (hk : k < (cI s).length) : (thI s.members s.marks (cI s)[k]) = ((cI s).take k).filter (thB s) := by
 unfold thI
 have := cP_at s.members s.members.length k hk
 show (cP s.members ((cP s.members s.members.length)[k])).filter _ = _
 rw [this]
 rfl
theorem cI_lt {s : StD} {k : Nat} (hk : k < (cI s).length) : (cI s)[k] < s.members.length := cP_lt (List.getElem_mem hk)
theorem gr_map {α : Type} (z : α) (f : Nat → α) {C : List Nat} {k : Nat} (hk : k < C.length) : gr z (C.map f) k = f C[k] := by
 rw [gr_lt (by simpa using hk), List.getElem_map]
def tkI (s : StD) (k : Nat) : List Nat := ((cI s).take k).filter (thB s)
theorem tkI_succS {s : StD} {k : Nat} (hk : k < (cI s).length) : tkI s (k + 1) = if thB s (cI s)[k] then tkI s k ++ [(cI s)[k]] else tkI s k := by
 unfold tkI
 rw [List.take_succ_eq_append_getElem hk, List.filter_append]
 by_cases c : thB s (cI s)[k] = true
 ·simp [c]
 ·simp [c]
theorem tkI_len (s : StD) (k : Nat) : (tkI s k).length ≤ (cI s).length := Nat.le_trans (List.length_filter_le _ _) (by simp; omega)
theorem tkI_all (s : StD) : tkI s (cI s).length = thI s.members s.marks s.members.length := by
 unfold tkI; rw [List.take_length]; rfl
theorem tkI_mono (s : StD) {j k : Nat} (hjk : j ≤ k) : (tkI s j).length ≤ (tkI s k).length := by
 unfold tkI
 refine List.Sublist.length_le (List.Sublist.filter _ ?_)
 rw [show (cI s).take j = ((cI s).take k).take j by rw [List.take_take, Nat.min_eq_left hjk]]
 exact List.take_sublist _ _
theorem partsS_eq (s : StD) : partsS s = prizeL s.par (mintS s) ((thI s.members s.marks s.members.length).map (nowM s)) := rfl
theorem partsS_len (s : StD) : (partsS s).length = (thI s.members s.marks s.members.length).length := by
 rw [partsS_eq, prizeL_len, List.length_map]
theorem mintS_b {s : StD} (H : SlH s) : 0 ≤ mintS s ∧ mintS s ≤ 18446744073709551615 := by
 have ha : 0 ≤ actS s := (tot_filter (effI s.members) (fun j => cntB (gr zeroM s.members j)) (List.range s.members.length) fun x _ => (eff_ok H.mo x).1).1
 have := bud_b H.ok (ac := actS s) ⟨ha, by have := H.act; omega⟩
 unfold mintS mintP
 split
 ·decide
 ·exact this
theorem actS_b {s : StD} (H : SlH s) : 0 ≤ actS s ∧ actS s ≤ 140737488355328 :=
 ⟨(tot_filter (effI s.members) (fun j => cntB (gr zeroM s.members j)) (List.range s.members.length) fun x _ => (eff_ok H.mo x).1).1, H.act⟩
theorem prize_at {s : StD} {k : Nat} (hk : k < (cI s).length) : prizeS s (cI s)[k] = at0 (partsS s) (tkI s k).length := by
 unfold prizeS
 rw [there_at hk]
 rfl
theorem at0_drop (xs : List Int) (j i : Nat) : at0 (xs.drop j) i = at0 xs (j + i) := by
 simp only [at0, List.getD_eq_getElem?_getD, List.getElem?_drop]
theorem thM_ok {s : StD} (H : SlH s) : ∀ x ∈ (thI s.members s.marks s.members.length).map (nowM s), MemOk x := fun x hx => by
 obtain ⟨i, hi, rfl⟩ := List.mem_map.1 hx
 exact now_ok H (cP_lt (List.mem_filter.1 hi).1)
theorem prize_b {s : StD} (H : SlH s) (i : Nat) : 0 ≤ prizeS s i ∧ prizeS s i ≤ 18446744073709551615 := by
 have := prizeL_at H.r (mintS_b H).1 (thM_ok H) (thI s.members s.marks i).length
 have h2 := (mintS_b H).2
 unfold prizeS
 rw [partsS_eq]
 omega
theorem flat_congr {α : Type} {f : α → List Value} {l : List α} {k : Nat} {a b : α} (e : f a = f b) : (l.set k a).flatMap f = (l.set k b).flatMap f := by
 rw [List.flatMap_def, List.flatMap_def, List.map_set, List.map_set, e]
theorem sdset4 {l : List MemD} {k : Nat} (hk : k < l.length) (b : MemD) :
  ((((l.flatMap sdC).set (k * 4) (.int .u64 b.bal)).set (k * 4 + 1) (.int .u64 b.eff)).set (k * 4 + 1 + 1) (.int .u64 b.score)).set (k * 4 + 1 + 1 + 1) (.int .i64 b.streak) = (l.set k b).flatMap sdC := by
 obtain ⟨a, ha⟩ : ∃ a, a = gr zeroM l k := ⟨_, rfl⟩
 have st : ∀ (l' : List MemD) (hk' : k < l'.length) (m : Nat) (u : Value) (a a' : MemD), gr zeroM l' k = a → m < 4 → sdC a' = (sdC a).set m u → (l'.flatMap sdC).set (k * 4 + m) u = (l'.set k a').flatMap sdC := fun l' hk' m u a a' e hm h1 => flatG_set sdC_len zeroM l' (m := m) hk' hm (by rw [e]; exact h1)
 have gg : ∀ x, gr zeroM (l.set k x) k = x := fun x => by rw [gr_lt (by simpa using hk), List.getElem_set_self]
 have h0 := st l hk 0 (.int .u64 b.bal) a { a with bal := b.bal } ha.symm (by decide) rfl
 have h1 := st (l.set k { a with bal := b.bal }) (by simpa using hk) 1 (.int .u64 b.eff) _ { a with bal := b.bal, eff := b.eff } (gg _) (by decide) rfl
 have h2 := st (l.set k { a with bal := b.bal, eff := b.eff }) (by simpa using hk) 2 (.int .u64 b.score) _ { a with bal := b.bal, eff := b.eff, score := b.score } (gg _) (by decide) rfl
 have h3 := st (l.set k { a with bal := b.bal, eff := b.eff, score := b.score }) (by simpa using hk) 3 (.int .i64 b.streak) _ { a with bal := b.bal, eff := b.eff, score := b.score, streak := b.streak } (gg _) (by decide) rfl
 rw [Nat.add_zero] at h0
 rw [List.set_set] at h1 h2 h3
 rw [h0, h1]
 show (((l.set k _).flatMap sdC).set (k * 4 + 2) _).set (k * 4 + 3) _ = _
 rw [h2, h3]
 exact flat_congr rfl
abbrev slB (bs cs : Nat) (l : List SlD) : Blk := ⟨bs, 42, l.flatMap slC, cs * 8⟩
abbrev nwB (bn cn : Nat) (l : List MemD) : Blk := ⟨bn, 89, l.flatMap sdC, cn * 4⟩
theorem sprizes_pos {s : StD} (v : SV) (hs0 : IsSt h v s) (H : SlH s) (bh bs cs bn cn : Nat) (hcs : (cI s).length ≤ cs) (hcn : (cI s).length ≤ cn)
  (hk : ∀ h', PH.le h h' → K (.tuple #[]) (shB bh s v (modeS s) (actS s) (.slice (some ⟨bs, 0, none⟩) (cI s).length cs) (.slice (some ⟨bn, 0, none⟩) (cI s).length cn) :: slB bs cs ((cI s).map (slipP s)) :: nwB bn cn ((cI s).map (nowP s)) :: L) h') :
  Spec Tryz.prog 32 [.pointer (some ⟨bh, 0, none⟩)] (shB bh s v (modeS s) (actS s) (.slice (some ⟨bs, 0, none⟩) (cI s).length cs) (.slice (some ⟨bn, 0, none⟩) (cI s).length cn) :: slB bs cs ((cI s).map (slip0 s)) :: nwB bn cn ((cI s).map (nowM s)) :: L) h K := by
 have hs := hs0
 obtain ⟨pa, pc, ma, mc, ea, ec, xa, xc, oa, oc, da, dc, ta, tc, ka, kc, ra, rc, rfl⟩ := hs.slices
 have hl := H.len
 have hcl : (cI s).length ≤ s.members.length := cP_len _ _
 obtain ⟨n, hn⟩ : ∃ n, n = (cI s).length := ⟨_, rfl⟩
 simp only [shB, stC, slB, nwB, List.cons_append, List.nil_append, ← hn] at hk hcs hcn ⊢
 refine x_enterA Tryz.func32 rfl (rs := []) rfl rfl mixed (by kernel_rfl) rfl rfl fun ap nd => ?_
 have hbh : h bh = noC := ap.1
 have hbs : h bs = noC := ap.2.1
 have hbn : h bn = noC := ap.2.2.1
 have nsh : bs ≠ bh := nd.1.1
 have nnh : bn ≠ bh := nd.1.2.1
 have nns : bn ≠ bs := nd.2.1.1
 clear ap nd
 simp -dsimp -implicitDefEqProofs (disch := first|with_reducible assumption|omega) [go_sem]
 refine xloop (γ := Nat × Option (Nat × Nat)) (0, none) (fun q => q.1 ≤ n ∧ okO q.2 (tkI s q.1).length ∧ apO q.2 L h)
  (fun q => [(16, .int .i64 q.1), (15, .int .i64 n), (14, .slice (some ⟨bs, 0, none⟩) n cs), (2, ovs q.2 (tkI s q.1).length), (0, .pointer (some ⟨bh, 0, none⟩))])
  (fun q => shB bh s ⟨.slice pa s.purses.length pc, .slice ma s.members.length mc, .slice ea s.entry.length ec, .slice xa s.exit.length xc, .slice oa s.pool.length oc, .slice da s.dues.length dc, .slice ta s.motions.length tc, .slice ka s.marks.length kc, .slice ra s.ring.length rc⟩ (modeS s) (actS s) (.slice (some ⟨bs, 0, none⟩) n cs) (.slice (some ⟨bn, 0, none⟩) n cn) :: slB bs cs ((cI s).map (slip0 s)) :: nwB bn cn ((cI s).map (nowM s)) :: oent 89 4 q.2 (((tkI s q.1).map (nowM s)).flatMap sdC) L) (fun _ => h) (fun q => n - q.1) ?_ ?_ ?_ ?_
 ·exact ⟨Nat.zero_le _, rfl, trivial⟩
 ·simp [Ent, List.lookup, xEnv, tkI, ovs]
 ·exact Drop.refl _ _
 rintro ⟨k, o⟩ ⟨i1, i2, i3⟩
 simp only [shB, stC, slB, nwB, List.cons_append, List.nil_append] at i1 i2 i3 ⊢
 by_cases c1 : k < n
 ·have c1' : k < (cI s).length := by omega
  have hts := tkI_succS c1'
  have htl := tkI_len s k
  obtain ⟨i, hi⟩ : ∃ i, i = (cI s)[k] := ⟨_, rfl⟩
  rw [← hi] at hts
  have hil : i < s.members.length := by rw [hi]; exact cI_lt c1'
  have gs : gr zeroSl ((cI s).map (slip0 s)) k = slip0 s i := by rw [gr_map zeroSl _ c1', hi]
  have gn : gr zeroM ((cI s).map (nowM s)) k = nowM s i := by rw [gr_map zeroM _ c1', hi]
  have kl1 : k < ((cI s).map (slip0 s)).length := by simpa using c1'
  have kl2 : k < ((cI s).map (nowM s)).length := by simpa using c1'
  have g0 : ∀ (K : Value → Prop) (t : Tok K), xNth (((cI s).map (slip0 s)).flatMap slC) (k * 8) K t = K (.int .i64 i) := fun K t => xNth_rec slC_len zeroSl _ (m := 0) kl1 (by decide) (by rw [gs]; rfl) K t
  have g1 : ∀ (K : Value → Prop) (t : Tok K), xNth (((cI s).map (slip0 s)).flatMap slC) (k * 8 + 1) K t = K (.bool (thB s i)) := fun K t => xNth_rec slC_len zeroSl _ (m := 1) kl1 (by decide) (by rw [gs]; rfl) K t
  have g2 : ∀ (K : Value → Prop) (t : Tok K), xNth (((cI s).map (slip0 s)).flatMap slC) (k * 8 + 2) K t = K (.int .u64 0) := fun K t => xNth_rec slC_len zeroSl _ (m := 2) kl1 (by decide) (by rw [gs]; rfl) K t
  have g3 : ∀ (K : Value → Prop) (t : Tok K), xNth (((cI s).map (slip0 s)).flatMap slC) (k * 8 + 3) K t = K (.int .u64 0) := fun K t => xNth_rec slC_len zeroSl _ (m := 3) kl1 (by decide) (by rw [gs]; rfl) K t
  have g4 : ∀ (K : Value → Prop) (t : Tok K), xNth (((cI s).map (slip0 s)).flatMap slC) (k * 8 + 4) K t = K (.int .u64 0) := fun K t => xNth_rec slC_len zeroSl _ (m := 4) kl1 (by decide) (by rw [gs]; rfl) K t
  have g5 : ∀ (K : Value → Prop) (t : Tok K), xNth (((cI s).map (slip0 s)).flatMap slC) (k * 8 + 5) K t = K (.int .u64 0) := fun K t => xNth_rec slC_len zeroSl _ (m := 5) kl1 (by decide) (by rw [gs]; rfl) K t
  have g6 : ∀ (K : Value → Prop) (t : Tok K), xNth (((cI s).map (slip0 s)).flatMap slC) (k * 8 + 6) K t = K (.int .i64 0) := fun K t => xNth_rec slC_len zeroSl _ (m := 6) kl1 (by decide) (by rw [gs]; rfl) K t
  have g7 : ∀ (K : Value → Prop) (t : Tok K), xNth (((cI s).map (slip0 s)).flatMap slC) (k * 8 + 7) K t = K (.int .u64 0) := fun K t => xNth_rec slC_len zeroSl _ (m := 7) kl1 (by decide) (by rw [gs]; rfl) K t
  have w0 : ∀ (K : Value → Prop) (t : Tok K), xNth (((cI s).map (nowM s)).flatMap sdC) (k * 4) K t = K (.int .u64 (nowM s i).bal) := fun K t => xNth_rec sdC_len zeroM _ (m := 0) kl2 (by decide) (by rw [gn]; rfl) K t
  have w1 : ∀ (K : Value → Prop) (t : Tok K), xNth (((cI s).map (nowM s)).flatMap sdC) (k * 4 + 1) K t = K (.int .u64 (nowM s i).eff) := fun K t => xNth_rec sdC_len zeroM _ (m := 1) kl2 (by decide) (by rw [gn]; rfl) K t
  have w2 : ∀ (K : Value → Prop) (t : Tok K), xNth (((cI s).map (nowM s)).flatMap sdC) (k * 4 + 2) K t = K (.int .u64 (nowM s i).score) := fun K t => xNth_rec sdC_len zeroM _ (m := 2) kl2 (by decide) (by rw [gn]; rfl) K t
  have w3 : ∀ (K : Value → Prop) (t : Tok K), xNth (((cI s).map (nowM s)).flatMap sdC) (k * 4 + 3) K t = K (.int .i64 (nowM s i).streak) := fun K t => xNth_rec sdC_len zeroM _ (m := 3) kl2 (by decide) (by rw [gn]; rfl) K t
  simp -dsimp -implicitDefEqProofs (disch := first|with_reducible assumption|omega) [go_sem, g0, g1, g2, g3, g4, g5, g6, g7]
  refine xnew fun b4 n_b4 h_b4 => ?_
  try simp only [Apart] at n_b4
  have nb4 : bh ≠ b4 ∧ bs ≠ b4 ∧ bn ≠ b4 := ⟨n_b4.1, n_b4.2.1, n_b4.2.2.1⟩
  clear n_b4
  simp -dsimp -implicitDefEqProofs (disch := first|with_reducible assumption|omega) [go_sem]
  cases ct : thB s i with
  | true =>
   rw [ct, if_pos rfl] at hts
   have e1 : ((tkI s k).map (nowM s)).flatMap sdC ++ sdC (nowM s i) = ((tkI s (k + 1)).map (nowM s)).flatMap sdC := by rw [hts, List.map_append, List.flatMap_append]; simp
   have e3 : (tkI s k).length + 1 = (tkI s (k + 1)).length := by rw [hts]; simp
   simp -dsimp -implicitDefEqProofs (disch := first|with_reducible assumption|omega) [go_sem, w0, w1, w2, w3]
   refine xnew fun b9 n_b9 h_b9 => ?_
   try simp only [Apart] at n_b9
   simp -dsimp -implicitDefEqProofs (disch := first|with_reducible assumption|omega) [go_sem]
   refine xappend (t := 96) (e := 89) (sz := 4) (bytes := 32) (by kernel_rfl) tI_89 rfl rfl rfl rfl (by decide) [_, _, _, _, _] _ o (tkI s k).length (((tkI s k).map (nowM s)).flatMap sdC) i2 (by rw [flatG_len sdC_len, List.length_map]) (Src.own List.mem_cons_self) (m := 1) (news := sdC (nowM s i)) rfl (by intro u hu; simp only [sdC, List.mem_cons, List.not_mem_nil, or_false] at hu; rcases hu with rfl | rfl | rfl | rfl <;> rfl) (by simp [maxLen]; omega) (by omega) ?_
   intro o' j1 j2 j3
   rw [e3] at j1
   rw [e1, e3]
   simp -dsimp -implicitDefEqProofs (disch := first|with_reducible assumption|omega) [go_sem]
   exact ⟨k + 1, o', ⟨by omega, j1, apO_tail (apO_tail (apO_tail (apO_tail (apO_tail j2))))⟩, by omega, by simp [Ent, List.lookup], (Drop.tail _ _ _).trans (Drop.tail _ _ _)⟩
  | false =>
   rw [ct, if_neg (by decide)] at hts
   simp -dsimp -implicitDefEqProofs (disch := first|with_reducible assumption|omega) [go_sem]
   exact ⟨k + 1, o, ⟨by omega, by rw [hts]; exact i2, i3⟩, by omega, by simp [Ent, List.lookup, hts], by rw [hts]; exact Drop.tail _ _ _⟩
 obtain rfl : n = k := by omega
 clear c1 i1
 rw [hn, tkI_all] at i2
 rw [show tkI s n = thI s.members s.marks s.members.length by rw [hn, tkI_all]]
 simp -dsimp -implicitDefEqProofs (disch := first|with_reducible assumption|omega) [go_sem]
 have hgm := H.gm
 have hmo := H.most
 have hac := actS_b H
 refine xanyl (.tk 0 (.tk 1 (.tk 2 (.tk 3 (.tk 5 (.tk 6 (.tk 7 (.tk 9 (.tk 10 (.tk 11 (.tk 12 (.tk 14 (.tk 15 (.tk 16 (.tk 17 (.tk 20 (.tk 21 (.tk 22 (.tk 23 (.tk 25 (.tk 26 (.tk 27 (.tkl 4 (.tkl 8 (.tkl 13 (.tkl 18 (.tk 19 (.tkl 24 (.tkl 28 (.or true 29 (.tk 30 (.fin)) (.nil))))))))))))))))))))))))))))))) (by kernel_rfl) (by kernel_rfl) _ (Drop.refl _ _) ?_
 simp -dsimp -implicitDefEqProofs (disch := first|with_reducible assumption|omega) [go_sem]
 refine Spec.ap (bmint_any s.par H.ok H.r (actS s) (s.gen + s.mint) s.most (modeS s) (by omega) (by omega) (by omega) fun h1 le1 ap => ?_)
 have hbh1 : h1 bh = noC := ap.1
 clear ap
 rw [show mintP s.par (actS s) (s.gen + s.mint) s.most (modeS s) = mintS s from rfl]
 refine xkp (Drop.forget le1) ?_
 have hmb := mintS_b H
 simp -dsimp -implicitDefEqProofs (disch := first|with_reducible assumption|omega) [go_sem]
 have htl : (thI s.members s.marks s.members.length).length ≤ s.members.length := thI_len _ _ _
 refine call_pub_o (n := (thI s.members s.marks s.members.length).length) [_, _, _] i2 (by rw [flatG_len sdC_len, List.length_map]) (by omega) (fun h2 le2 sl2 => ?_) ⟨Tryz.f128, Tryz.func128, by decide +kernel, rfl⟩
 have rec2 : Recs sdC 4 h2 (ovs o (thI s.members s.marks s.members.length).length) ((thI s.members s.marks s.members.length).map (nowM s)) := by
  refine ⟨sdC_len, ?_⟩
  rw [List.length_map]
  exact sl2
 refine Spec.ap (prizes_any s.par H.ok H.r _ rec2 (thM_ok H) (by rw [List.length_map]; omega) (mintS s) hmb fun h3 r3 le3 i4 ap => ?_)
 simp only [List.cons_append, List.nil_append] at ap ⊢
 have hbh3 : h3 bh = noC := ap.1
 have hbs3 : h3 bs = noC := ap.2.1
 have hbn3 : h3 bn = noC := ap.2.2.1
 clear ap
 rw [← partsS_eq] at i4
 have le0 : PH.le h h3 := le1.trans (le2.trans le3)
 obtain ⟨pa0, pc0, rfl, hpc0, _⟩ := i4.open
 have hpl := partsS_len s
 simp -dsimp -implicitDefEqProofs (disch := first|with_reducible assumption|omega) [go_sem]
 refine xloop (γ := Nat × Option Addr × Nat) (0, pa0, pc0) (fun q => q.1 ≤ n ∧ Ints h3 .u64 (.slice q.2.1 ((partsS s).length - (tkI s q.1).length) q.2.2) ((partsS s).drop (tkI s q.1).length))
  (fun q => [(83, .int .i64 q.1), (82, .int .i64 n), (6, .slice q.2.1 ((partsS s).length - (tkI s q.1).length) q.2.2), (0, .pointer (some ⟨bh, 0, none⟩))])
  (fun q => shB bh s ⟨.slice pa s.purses.length pc, .slice ma s.members.length mc, .slice ea s.entry.length ec, .slice xa s.exit.length xc, .slice oa s.pool.length oc, .slice da s.dues.length dc, .slice ta s.motions.length tc, .slice ka s.marks.length kc, .slice ra s.ring.length rc⟩ (modeS s) (actS s) (.slice (some ⟨bs, 0, none⟩) n cs) (.slice (some ⟨bn, 0, none⟩) n cn) :: slB bs cs (mixL (slipP s) (slip0 s) (cI s) q.1) :: nwB bn cn (mixL (nowP s) (nowM s) (cI s) q.1) :: L) (fun _ => h3) (fun q => n - q.1) ?_ ?_ ?_ ?_
 ·exact ⟨Nat.zero_le _, by simpa [tkI] using i4⟩
 ·simp [Ent, List.lookup, tkI]
 ·rw [mixL_0, mixL_0]
  exact Drop.refl _ _
 rintro ⟨k, qa, qc⟩ ⟨i1, i5⟩
 simp only [shB, stC, slB, nwB, List.cons_append, List.nil_append] at i1 i5 ⊢
 by_cases c1 : k < n
 ·have c1' : k < (cI s).length := by omega
  have hts := tkI_succS c1'
  have hpz := prize_at c1'
  have hmono := tkI_mono s (show k + 1 ≤ (cI s).length from c1')
  rw [tkI_all] at hmono
  obtain ⟨i, hi⟩ : ∃ i, i = (cI s)[k] := ⟨_, rfl⟩
  rw [← hi] at hts hpz
  have hil : i < s.members.length := by rw [hi]; exact cI_lt c1'
  have gs : gr zeroSl (mixL (slipP s) (slip0 s) (cI s) k) k = slip0 s i := by rw [mixL_at zeroSl c1', hi]
  have gn : gr zeroM (mixL (nowP s) (nowM s) (cI s) k) k = nowM s i := by rw [mixL_at zeroM c1', hi]
  have kl1 : k < (mixL (slipP s) (slip0 s) (cI s) k).length := by rw [mixL_len]; exact c1'
  have kl2 : k < (mixL (nowP s) (nowM s) (cI s) k).length := by rw [mixL_len]; exact c1'
  have hst1 := mixL_set (f := slipP s) (g := slip0 s) c1'
  have hst2 := mixL_set (f := nowP s) (g := nowM s) c1'
  have hsm1 := mixL_same (f := slipP s) (g := slip0 s) c1'
  have hsm2 := mixL_same (f := nowP s) (g := nowM s) c1'
  have ml1 : (mixL (slipP s) (slip0 s) (cI s) k).length = n := by rw [mixL_len, hn]
  have ml2 : (mixL (nowP s) (nowM s) (cI s) k).length = n := by rw [mixL_len, hn]
  rw [← hi] at hst1 hst2 hsm1 hsm2
  have hpb := prize_b H i
  have hno := now_ok H hil
  generalize mixL (slipP s) (slip0 s) (cI s) k = M1 at *
  generalize mixL (nowP s) (nowM s) (cI s) k = M2 at *
  have g1 : ∀ (K : Value → Prop) (t : Tok K), xNth (M1.flatMap slC) (k * 8 + 1) K t = K (.bool (thB s i)) := fun K t => xNth_rec slC_len zeroSl _ (m := 1) kl1 (by decide) (by rw [gs]; rfl) K t
  have w0 : ∀ (K : Value → Prop) (t : Tok K), xNth (M2.flatMap sdC) (k * 4) K t = K (.int .u64 (nowM s i).bal) := fun K t => xNth_rec sdC_len zeroM _ (m := 0) kl2 (by decide) (by rw [gn]; rfl) K t
  have w1 : ∀ (K : Value → Prop) (t : Tok K), xNth (M2.flatMap sdC) (k * 4 + 1) K t = K (.int .u64 (nowM s i).eff) := fun K t => xNth_rec sdC_len zeroM _ (m := 1) kl2 (by decide) (by rw [gn]; rfl) K t
  have w2 : ∀ (K : Value → Prop) (t : Tok K), xNth (M2.flatMap sdC) (k * 4 + 2) K t = K (.int .u64 (nowM s i).score) := fun K t => xNth_rec sdC_len zeroM _ (m := 2) kl2 (by decide) (by rw [gn]; rfl) K t
  have w3 : ∀ (K : Value → Prop) (t : Tok K), xNth (M2.flatMap sdC) (k * 4 + 3) K t = K (.int .i64 (nowM s i).streak) := fun K t => xNth_rec sdC_len zeroM _ (m := 3) kl2 (by decide) (by rw [gn]; rfl) K t
  simp -dsimp -implicitDefEqProofs (disch := first|with_reducible assumption|omega) [go_sem, g1]
  cases ct : thB s i with
  | true =>
   rw [ct, if_pos rfl] at hts
   have htl1 : (tkI s (k + 1)).length = (tkI s k).length + 1 := by rw [hts]; simp
   have hjm : (tkI s k).length < (partsS s).length := by omega
   have i5' := i5
   obtain ⟨a5, c5, e5, hc5, _, _, hcs5⟩ := i5.open
   injection e5 with e51 e52 e53
   subst e51; subst e53
   rw [List.length_drop] at hc5
   have hcs : ∀ x, x < (partsS s).length - (tkI s k).length → elemCell h3 qa x = some (.int .u64 (at0 (partsS s) ((tkI s k).length + x))) := fun x hx => by rw [hcs5 x (by rw [List.length_drop]; exact hx), at0_drop]
   have hu25 : tSh Tryz.prog 25 = .sl 22 1 8 := by kernel_rfl
   have hfl1 : (M1.flatMap slC).length = n * 8 := by rw [flatG_len slC_len, ml1]
   have hk8 := flat_lt (w := 8) c1 (show 3 < 8 by decide)
   have hk4 := flat_lt (w := 4) c1 (show 3 < 4 by decide)
   have hfl2 : (M2.flatMap sdC).length = n * 4 := by rw [flatG_len sdC_len, ml2]
   simp -dsimp -implicitDefEqProofs (disch := first|with_reducible assumption|omega) [go_sem]
   refine xanyl (.tk 0 (.tk 1 (.tk 2 (.tk 4 (.tk 5 (.tkl 3 (.tk 6 (.tk 7 (.or false 8 (.tk 9 (.fin)) (.nil)))))))))) (by kernel_rfl) (by kernel_rfl) [] (drop_left [] _ _) ?_
   have hcs0 : at0 (partsS s) ((tkI s k).length + 0) = prizeS s i := by rw [Nat.add_zero, hpz]
   obtain ⟨a1, ha1⟩ : ∃ a1 : SlD, a1 = { slip0 s i with prize := prizeS s i } := ⟨_, rfl⟩
   obtain ⟨a2, ha2⟩ : ∃ a2 : SlD, a2 = { slip0 s i with prize := prizeS s i, over := (payS s i).2 } := ⟨_, rfl⟩
   have hset0 : (M1.flatMap slC).set (k * 8 + 2) (.int .u64 (prizeS s i)) = (M1.set k a1).flatMap slC := flatG_set slC_len zeroSl M1 (m := 2) kl1 (by decide) (by rw [gs, ha1]; rfl)
   have kl1' : k < (M1.set k a1).length := by rw [List.length_set]; exact kl1
   have gs' : gr zeroSl (M1.set k a1) k = a1 := by rw [gr_lt kl1', List.getElem_set_self]
   have hset1 : ((M1.set k a1).flatMap slC).set (k * 8 + 3) (.int .u64 (payS s i).2) = (M1.set k a2).flatMap slC := by
    rw [flatG_set slC_len zeroSl (M1.set k a1) (m := 3) kl1' (by decide) (a' := a2) (by rw [gs', ha1, ha2]; rfl), List.set_set]
   have r2 : ∀ (K : Value → Prop) (t : Tok K), xNth ((M1.set k a1).flatMap slC) (k * 8 + 2) K t = K (.int .u64 (prizeS s i)) := fun K t => xNth_rec slC_len zeroSl _ (m := 2) kl1' (by decide) (by rw [gs', ha1]; rfl) K t
   have hsum1 : (M1.map fun a => (slC a).length).sum = n * 8 := by rw [← List.length_flatMap, hfl1]
   have hfl1' : ((M1.set k a1).flatMap slC).length = n * 8 := by rw [flatG_len slC_len, List.length_set, ml1]
   simp -dsimp -implicitDefEqProofs (disch := first|with_reducible assumption|omega) [go_sem, idx hcs, xSl_lo hu25, hcs0]
   refine ⟨by omega, ?_⟩
   rw [← hpz, hset0]
   refine xanyl (.tk 0 (.tk 1 (.tk 2 (.tk 4 (.tk 5 (.tk 6 (.tk 7 (.tk 8 (.tk 9 (.tk 11 (.tk 12 (.tk 13 (.tk 15 (.tk 18 (.tk 19 (.tk 20 (.tkl 3 (.tkl 10 (.tkl 14 (.tk 16 (.tkl 17 (.tkl 21 (.or true 22 (.tk 23 (.tk 24 (.tk 25 (.tk 26 (.or false 27 (.tk 28 (.tk 29 (.or false 30 (.fin) (.nil)))) (.nil)))))) (.nil)))))))))))))))))))))))) (by kernel_rfl) (by kernel_rfl) _ (Drop.refl _ _) ?_
   simp -dsimp -implicitDefEqProofs (disch := first|with_reducible assumption|omega) [go_sem, w0, w1, w2, w3, r2]
   refine ppay_any s.par H.ok H.r (nowM s i) hno (prizeS s i) hpb ?_
   rw [show payM s.par (nowM s i) (prizeS s i) = payS s i from rfl]
   refine xkp (Drop.refl _ _) ?_
   simp -dsimp -implicitDefEqProofs (disch := first|with_reducible assumption|omega) [go_sem]
   have hsum2 : (M2.map fun a => (sdC a).length).sum = n * 4 := by rw [← List.length_flatMap, hfl2]
   have hsum1' : ((M1.map fun a => (slC a).length).set k (slC a1).length).sum = n * 8 := by
    have : ((M1.set k a1).map fun a => (slC a).length).sum = n * 8 := by rw [← List.length_flatMap, hfl1']
    rwa [List.map_set] at this
   have i6 := i5'.part 1 ((partsS s).length - (tkI s k).length) (by omega) (by rw [List.length_drop]; exact Nat.le_refl _)
   rw [List.drop_drop, List.take_of_length_le (by rw [List.length_drop]; omega), Nat.sub_sub, ← htl1] at i6
   refine ⟨by omega, by omega, k + 1, _, _, ⟨by omega, i6⟩, by omega, by simp [Ent, List.lookup, htl1, Nat.sub_sub], ?_⟩
   rw [hset1, sdset4 kl2, ← hst1, ← hst2, show slipP s i = a2 by rw [slipP, if_pos ct, ha2], show nowP s i = (payS s i).1 by rw [nowP, if_pos ct]]
   exact Drop.refl _ _
  | false =>
   rw [ct, if_neg (by decide)] at hts
   simp -dsimp -implicitDefEqProofs (disch := first|with_reducible assumption|omega) [go_sem]
   refine ⟨k + 1, qa, qc, ⟨by omega, by rw [hts]; exact i5⟩, by omega, by simp [Ent, List.lookup, hts], ?_⟩
   rw [hsm1 (by simp [slipP, ct]), hsm2 (by simp [nowP, ct])]
   exact Drop.refl _ _
 ·obtain rfl : n = k := by omega
  rw [hn] at hk ⊢
  rw [mixL_all, mixL_all]
  simp -dsimp -implicitDefEqProofs (disch := first|with_reducible assumption|omega) [go_sem]
  exact fin_here (hk h3 le0)
end Go.X

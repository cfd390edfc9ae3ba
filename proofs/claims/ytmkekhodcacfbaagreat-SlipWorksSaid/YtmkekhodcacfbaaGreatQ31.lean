/- Lemmas and contracts for a statement about the given program. Conditions: as each says. -/
import Derived.Test.YtmkekhodcacfbaaGreatQ18
import Derived.Test.YtmkekhodcacfbaaGreatQ19
import Derived.Test.YtmkekhodcacfbaaGreatQ20
import Derived.Test.YtmkekhodcacfbaaGreatQ21
import Derived.Test.YtmkekhodcacfbaaGreatQ24
import Derived.Test.YtmkekhodcacfbaaGreatQ26
set_option linter.unusedVariables false
set_option linter.unusedSimpArgs false
set_option maxHeartbeats 12800000
set_option maxRecDepth 20000
namespace Go.X
open Go.RowKit Go.Proofs Go.Bl
variable {L : Own} {h : PH} {K : PK}
theorem flat_ne {i j w m m' : Nat} (hm : m < w) (hm' : m' < w) (hij : i ≠ j) : i * w + m ≠ j * w + m' := fun e => by
 rcases Nat.lt_or_gt_of_ne hij with c | c
 ·have := Nat.mul_le_mul_right w (show i + 1 ≤ j from c)
  rw [Nat.succ_mul] at this
  omega
 ·have := Nat.mul_le_mul_right w (show j + 1 ≤ i from c)
  rw [Nat.succ_mul] at this
  omega
theorem flat_lt {i n w m : Nat} (hi : i < n) (hm : m < w) : i * w + m < n * w := by
 have := Nat.mul_le_mul_right w (show i + 1 ≤ n from hi)
 rw [Nat.succ_mul] at this
 omega
theorem flatG_set {α : Type} {f : α → List Value} {w : Nat} (hf : ∀ a, (f a).length = w) (z : α) (l : List α) {i m : Nat} (hi : i < l.length) (hm : m < w) {u : Value} {a' : α} (ha : f a' = (f (gr z l i)).set m u) : (l.flatMap f).set (i * w + m) u = (l.set i a').flatMap f := by
 apply List.ext_getElem?
 intro n
 obtain ⟨j, m', rfl, hm'⟩ : ∃ j m', n = j * w + m' ∧ m' < w := ⟨n / w, n % w, by rw [Nat.mul_comm, Nat.div_add_mod], Nat.mod_lt _ (by omega)⟩
 rw [flatG_get hf _ j m' hm', List.getElem?_set, flatG_get hf _ j m' hm', List.getElem?_set]
 by_cases e : i = j
 ·subst e
  have hll : i * w + m < (l.flatMap f).length := by rw [flatG_len hf]; exact flat_lt hi hm
  rw [if_pos rfl, if_pos hi]
  show _ = (f a')[m']?
  rw [ha, List.getElem?_set, gr_lt hi]
  by_cases e2 : m = m'
  ·subst e2
   rw [if_pos rfl, if_pos hll, if_pos rfl, if_pos (by rw [hf]; exact hm)]
  ·rw [if_neg (by omega), if_neg e2, List.getElem?_eq_getElem hi]
   rfl
 ·rw [if_neg (flat_ne hm hm' e), if_neg e]
theorem xNth_rec {α : Type} {f : α → List Value} {w : Nat} (hf : ∀ a, (f a).length = w) (z : α) (l : List α) {i m : Nat} (hi : i < l.length) (hm : m < w) {u : Value} (hu : (f (gr z l i))[m]? = some u) (K : Value → Prop) (t : Tok K) : xNth (l.flatMap f) (i * w + m) K t = K u :=
 xNth_of (by rw [flatG_get hf l i m hm, List.getElem?_eq_getElem hi, ← gr_lt (z := z) hi]; exact hu)
theorem oent_congr {e sz : Nat} (o : Option (Nat × Nat)) (xs : List Value) {L L' : Own} (hp : L.Perm L') : (oent e sz o xs L).Perm (oent e sz o xs L') := by
 cases o with
 | none => exact hp
 | some p => exact List.Perm.cons _ hp
structure OwnFew (s : StD) : Prop where
 p : s.purses.length ≤ 1000
 m : s.members.length ≤ 1000
 e : s.entry.length ≤ 1000
 x : s.exit.length ≤ 1000
 o : s.pool.length ≤ 1000
 d : s.dues.length ≤ 1000
 t : s.motions.length ≤ 1000
 k : s.marks.length ≤ 1000
 r : s.ring.length ≤ 1000
 v : ∀ m ∈ s.motions, m.yes.length ≤ 1000 ∧ m.no.length ≤ 1000
 b : ∀ b ∈ s.ring, b.length ≤ 1000
structure BeOk (ms : List MemD) (ps : List Int) : Prop where
 m : ∀ x ∈ ms, MemOk x
 o : ∀ x ∈ ms, 0 ≤ x.owner ∧ x.owner < ps.length
 p : ∀ i, 0 ≤ at0 ps i
 t : tot ps + tot (ms.map MemD.bal) ≤ 4611686018427387904
def dTot (l : List DueD) : Int := tot (l.map DueD.amt)
structure DuOk (l : List DueD) (n : Nat) (M : Int) : Prop where
 d : ∀ x ∈ l, DueOk x
 t : dTot l ≤ M
 n : l.length ≤ n
def flt (l : List Int) (k : Int) : List Int := l.filter fun x => decide (x ≠ k)
theorem flt_succ {xs : List Int} {k : Int} {j : Nat} (hj : j < xs.length) : flt (xs.take (j + 1)) k = flt (xs.take j) k ++ (if at0 xs j ≠ k then [at0 xs j] else []) := by
 rw [List.take_succ_eq_append_getElem hj, flt, List.filter_append, ← at0_lt hj, flt]
 by_cases c : xs[j] = k
 ·simp [c]
 ·simp [c]
theorem flt_none {xs : List Int} {k : Int} (h : ∀ j, j < xs.length → at0 xs j ≠ k) : flt xs k = xs := by
 rw [flt, List.filter_eq_self]
 intro x hx
 obtain ⟨j, hj, rfl⟩ := List.mem_iff_getElem.1 hx
 have := h j hj
 rw [← at0_lt hj] at this
 simpa using this
theorem flt_len (xs : List Int) (k : Int) : (flt xs k).length ≤ xs.length := List.length_filter_le _ _
theorem in24_any (n lo hi : Int) (hk : K (.bool (wi n lo hi)) L h) : Spec Tryz.prog 72 [.int .i64 n, .int .i64 lo, .int .i64 hi] L h K := by
 unfold wi at hk
 refine x_enter Tryz.func72 rfl (rs := [_]) rfl rfl mixed (by kernel_rfl) rfl rfl ?_
 simp -dsimp -implicitDefEqProofs (disch := first|with_reducible assumption|omega) [go_sem]
 by_cases c : lo ≤ n
 ·simp -dsimp -implicitDefEqProofs (disch := first|with_reducible assumption|omega) [go_sem]
  exact fin_here (by simpa [c] using hk)
 ·simp -dsimp -implicitDefEqProofs (disch := first|with_reducible assumption|omega) [go_sem]
  exact fin_here (by simpa [c] using hk)
theorem in23_any (n lo hi : Int) (hk : K (.bool (wi n lo hi)) L h) : Spec Tryz.prog 209 [.int .i64 n, .int .i64 lo, .int .i64 hi] L h K := by
 unfold wi at hk
 refine x_enter Tryz.func209 rfl (rs := [_]) rfl rfl mixed (by kernel_rfl) rfl rfl ?_
 simp -dsimp -implicitDefEqProofs (disch := first|with_reducible assumption|omega) [go_sem]
 by_cases c : lo ≤ n
 ·simp -dsimp -implicitDefEqProofs (disch := first|with_reducible assumption|omega) [go_sem]
  exact fin_here (by simpa [c] using hk)
 ·simp -dsimp -implicitDefEqProofs (disch := first|with_reducible assumption|omega) [go_sem]
  exact fin_here (by simpa [c] using hk)
def fI (zs : List Int) (x : Int) : Int := if firstN (fun k => decide (at0 zs k = x)) zs.length 0 = zs.length then -1 else (firstN (fun k => decide (at0 zs k = x)) zs.length 0 : Nat)
theorem fI_iff (zs : List Int) (x : Int) : 0 ≤ fI zs x ↔ x ∈ zs := by
 obtain ⟨_, h2, h3, h4⟩ := firstN_spec (fun k => decide (at0 zs k = x)) zs.length 0
 unfold fI
 constructor
 ·intro h
  split at h
  ·omega
  ·rename_i c
   have := h4 (by omega)
   simp only [decide_eq_true_eq] at this
   rw [← this, ← at0_lt (by omega)]
   exact List.getElem_mem _
 ·intro h
  obtain ⟨j, hj, e⟩ := List.mem_iff_getElem.1 h
  rw [if_neg]
  ·omega
  ·intro c
   have := h3 j (by omega) (by omega)
   rw [at0_lt hj] at e
   simp [e] at this
theorem fI_hit {zs : List Int} {x : Int} {k : Nat} (h1 : k < zs.length) (h2 : ∀ j, j < k → at0 zs j ≠ x) (h3 : at0 zs k = x) : fI zs x = k := by
 have : firstN (fun k => decide (at0 zs k = x)) zs.length 0 = k := firstN_unique (Nat.zero_le _) (by omega) (fun i _ hi => decide_eq_false (h2 i hi)) (fun _ => decide_eq_true h3)
 unfold fI
 rw [this, if_neg (by omega)]
theorem fI_miss {zs : List Int} {x : Int} (h2 : ∀ j, j < zs.length → at0 zs j ≠ x) : fI zs x = -1 := by
 have : firstN (fun k => decide (at0 zs k = x)) zs.length 0 = zs.length := firstN_unique (Nat.zero_le _) (by omega) (fun i _ hi => decide_eq_false (h2 i hi)) (fun h => by omega)
 unfold fI
 rw [if_pos this]
theorem find16_any {zs : List Int} (v : Value) (x : Int) (hz : Ints h .i64 v zs) (hk : K (.int .i64 (fI zs x)) L h) : Spec Tryz.prog 51 [v, .int .i64 x] L h K := by
 have hn := hz.num
 obtain ⟨a, c, rfl, hcap, hl, _, hcs⟩ := hz.open
 refine x_enter Tryz.func51 rfl (rs := [_]) rfl rfl mixed (by kernel_rfl) rfl rfl ?_
 simp -dsimp -implicitDefEqProofs (disch := first|with_reducible assumption|omega) [go_sem]
 refine xloop' (0 : Nat) (fun k => k ≤ zs.length ∧ ∀ j, j < k → at0 zs j ≠ x) (fun k => [(5, .int .i64 k), (0, .slice a zs.length c), (1, .int .i64 x)]) (fun k => zs.length - k) ?_ ?_ ?_
 ·exact ⟨Nat.zero_le _, fun j hj => by omega⟩
 ·simp [Ent, List.lookup, xEnv]
 rintro k ⟨k1, k2⟩
 by_cases c1 : k < zs.length
 ·by_cases c2 : at0 zs k = x
  ·simp -dsimp -implicitDefEqProofs (disch := first|with_reducible assumption|omega) [go_sem, idx hcs]
   rw [fI_hit c1 k2 c2] at hk
   exact fin_here hk
  ·simp -dsimp -implicitDefEqProofs (disch := first|with_reducible assumption|omega) [go_sem, idx hcs]
   refine ⟨k + 1, ⟨by omega, fun j hj => ?_⟩, by omega, by simp [Ent, List.lookup], Drop.refl _ _⟩
   by_cases e : j = k
   ·subst e; exact c2
   ·exact k2 j (by omega)
 ·simp -dsimp -implicitDefEqProofs (disch := first|with_reducible assumption|omega) [go_sem]
  rw [fI_miss (fun j hj => k2 j (by omega))] at hk
  exact fin_here hk
theorem right20_any {bs : List Int} (v : Value) (hb : Ints h .u8 v bs) (hk : K (.bool (chkB bs 128)) L h) : Spec Tryz.prog 117 [v] L h K := by
 have hb' := hb
 obtain ⟨a, c, rfl, _⟩ := hb.open
 rw [chk_right bs 128 hb'.byte] at hk
 refine x_enter Tryz.func117 rfl (rs := [_]) rfl rfl mixed (by kernel_rfl) rfl rfl ?_
 simp -dsimp -implicitDefEqProofs (disch := first|with_reducible assumption|omega) [go_sem]
 refine rright_any _ 128 hb' (by decide) (by decide) ?_
 simp -dsimp -implicitDefEqProofs (disch := first|with_reducible assumption|omega) [go_sem]
 exact fin_here hk
theorem add18_any (d : DepD) (ok : DepOk d) (hk : ∀ a n c, K (.tuple #[.slice a n c, .int .i64 (if depB d then 0 else 2)]) L h) : Spec Tryz.prog 211 [.slice none 0 0, depV d] L h K := by
 have ua := ok.a
 have no : depB d = false → K (.tuple #[.slice none 0 0, .int .i64 2]) L h := fun e => by have := hk none 0 0; rwa [e] at this
 refine x_enter Tryz.func211 rfl (rs := [_, _]) rfl rfl mixed (by kernel_rfl) rfl rfl ?_
 simp -dsimp -implicitDefEqProofs (disch := first|with_reducible assumption|omega) [go_sem]
 refine xnew fun b1 n_b1 h_b1 => ?_
 try simp only [Apart] at n_b1
 simp -dsimp -implicitDefEqProofs (disch := first|with_reducible assumption|omega) [go_sem]
 by_cases c1 : d.acct < 0
 ·have := no (by simp [depB, wi]; omega)
  simp -dsimp -implicitDefEqProofs (disch := first|with_reducible assumption|omega) [go_sem]
  exact fin_tail (fin_here this)
 by_cases c2 : 63 < d.acct
 ·have := no (by simp [depB, wi]; omega)
  simp -dsimp -implicitDefEqProofs (disch := first|with_reducible assumption|omega) [go_sem]
  exact fin_tail (fin_here this)
 by_cases c3 : d.mem < 0
 ·have := no (by simp [depB, wi]; omega)
  simp -dsimp -implicitDefEqProofs (disch := first|with_reducible assumption|omega) [go_sem]
  exact fin_tail (fin_here this)
 by_cases c4 : 127 < d.mem
 ·have := no (by simp [depB, wi]; omega)
  simp -dsimp -implicitDefEqProofs (disch := first|with_reducible assumption|omega) [go_sem]
  exact fin_tail (fin_here this)
 by_cases c5 : d.amt = 0
 ·have := no (by simp [depB, wi]; omega)
  cases c6 : d.new with
  | true =>
   by_cases c7 : 0 < d.mem
   ·simp -dsimp -implicitDefEqProofs (disch := first|with_reducible assumption|omega) [go_sem]
    exact fin_tail (fin_here this)
   ·simp -dsimp -implicitDefEqProofs (disch := first|with_reducible assumption|omega) [go_sem]
    exact fin_tail (fin_here this)
  | false =>
   simp -dsimp -implicitDefEqProofs (disch := first|with_reducible assumption|omega) [go_sem]
   exact fin_tail (fin_here this)
 by_cases c8 : 4611686018427387904 < d.amt
 ·have := no (by simp [depB, wi]; omega)
  cases c6 : d.new with
  | true =>
   by_cases c7 : 0 < d.mem
   ·simp -dsimp -implicitDefEqProofs (disch := first|with_reducible assumption|omega) [go_sem]
    exact fin_tail (fin_here this)
   ·simp -dsimp -implicitDefEqProofs (disch := first|with_reducible assumption|omega) [go_sem]
    exact fin_tail (fin_here this)
  | false =>
   simp -dsimp -implicitDefEqProofs (disch := first|with_reducible assumption|omega) [go_sem]
   exact fin_tail (fin_here this)
 cases c6 : d.new with
 | true =>
  by_cases c7 : 0 < d.mem
  ·have := no (by simp [depB, wi, c6]; omega)
   simp -dsimp -implicitDefEqProofs (disch := first|with_reducible assumption|omega) [go_sem]
   exact fin_tail (fin_here this)
  ·have yes : depB d = true := by simp [depB, wi, c6]; omega
   rw [yes] at hk
   simp -dsimp -implicitDefEqProofs (disch := first|with_reducible assumption|omega) [go_sem]
   refine xappend (t := 50) (e := 218) (sz := 4) (bytes := 32) (by kernel_rfl) tI_218 rfl rfl rfl rfl (by decide) [] _ none 0 [] rfl rfl (.inl ⟨rfl, rfl, rfl⟩) (m := 0) (news := []) rfl (fun u hu => by cases hu) (by decide) (by decide) ?_
   intro o1 i1 i2 i3
   have : o1 = none := i3.2 ⟨rfl, rfl⟩
   subst this
   simp -dsimp -implicitDefEqProofs (disch := first|with_reducible assumption|omega) [go_sem, ovs, oent]
   refine xnew fun b2 n_b2 h_b2 => ?_
   try simp only [Apart] at n_b2
   simp -dsimp -implicitDefEqProofs (disch := first|with_reducible assumption|omega) [go_sem, c6]
   refine xappend (t := 50) (e := 218) (sz := 4) (bytes := 32) (by kernel_rfl) tI_218 rfl rfl rfl rfl (by decide) [_] _ none 0 [] rfl rfl (Src.own (b := b2) List.mem_cons_self) (m := 1) (news := [.int .i64 d.acct, .int .i64 d.mem, .int .u64 d.amt, .bool true]) rfl (by intro u hu; simp only [List.mem_cons, List.not_mem_nil, or_false] at hu; rcases hu with rfl | rfl | rfl | rfl <;> rfl) (by decide) (by decide) ?_
   intro o' j1 j2 j3
   have ho := ovs_open j1
   obtain ⟨a', c', e', _⟩ := ho
   rw [e']
   simp -dsimp -implicitDefEqProofs (disch := first|with_reducible assumption|omega) [go_sem]
   exact fin_tail (fin_oent (fin_tail (fin_here (hk _ _ _))))
 | false =>
  have yes : depB d = true := by simp [depB, wi, c6]; omega
  rw [yes] at hk
  simp -dsimp -implicitDefEqProofs (disch := first|with_reducible assumption|omega) [go_sem]
  refine xappend (t := 50) (e := 218) (sz := 4) (bytes := 32) (by kernel_rfl) tI_218 rfl rfl rfl rfl (by decide) [] _ none 0 [] rfl rfl (.inl ⟨rfl, rfl, rfl⟩) (m := 0) (news := []) rfl (fun u hu => by cases hu) (by decide) (by decide) ?_
  intro o1 i1 i2 i3
  have : o1 = none := i3.2 ⟨rfl, rfl⟩
  subst this
  simp -dsimp -implicitDefEqProofs (disch := first|with_reducible assumption|omega) [go_sem, ovs, oent]
  refine xnew fun b2 n_b2 h_b2 => ?_
  try simp only [Apart] at n_b2
  simp -dsimp -implicitDefEqProofs (disch := first|with_reducible assumption|omega) [go_sem, c6]
  refine xappend (t := 50) (e := 218) (sz := 4) (bytes := 32) (by kernel_rfl) tI_218 rfl rfl rfl rfl (by decide) [_] _ none 0 [] rfl rfl (Src.own (b := b2) List.mem_cons_self) (m := 1) (news := [.int .i64 d.acct, .int .i64 d.mem, .int .u64 d.amt, .bool false]) rfl (by intro u hu; simp only [List.mem_cons, List.not_mem_nil, or_false] at hu; rcases hu with rfl | rfl | rfl | rfl <;> rfl) (by decide) (by decide) ?_
  intro o' j1 j2 j3
  have ho := ovs_open j1
  obtain ⟨a', c', e', _⟩ := ho
  rw [e']
  simp -dsimp -implicitDefEqProofs (disch := first|with_reducible assumption|omega) [go_sem]
  exact fin_tail (fin_oent (fin_tail (fin_here (hk _ _ _))))
theorem eqPar7 (p q : ParD) (x y : Operand) (K : Value → Prop) (t : Tok K) : xBin Tryz.prog .eql 48 x y (parV p) (parV q) K t = K (.bool (decide (p = q))) := by
 rw [← eqParD]
 exact xBin_eqints (T := 48) (ks := parKS) (by kernel_rfl) (by kernel_rfl) (by kernel_rfl) (by kernel_rfl) (wides p ++ narrows p) (wides q ++ narrows q) rfl rfl x y K t
theorem fits23_any (m : MotD) (y n : Value) (hy0 : Ints h .u8 y m.yes) (hn0 : Ints h .u8 n m.no) (ok : MotOk m) (hk : ∀ h', PH.le h h' → K (.bool (motFits m)) L h') : Spec Tryz.prog 116 [motV m y n] L h K := by
 have hy := hy0
 have hn := hn0
 obtain ⟨ya, yc, rfl, _⟩ := hy.open
 obtain ⟨na, nc, rfl, _⟩ := hn.open
 have ua := ok.a
 unfold motFits at hk
 have hk0 := hk h (PH.le_refl h)
 refine x_enter Tryz.func116 rfl (rs := [_]) rfl rfl mixed (by kernel_rfl) rfl rfl ?_
 simp -dsimp -implicitDefEqProofs (disch := first|with_reducible assumption|omega) [go_sem]
 refine xnew fun b1 n_b1 h_b1 => ?_
 try simp only [Apart] at n_b1
 simp -dsimp -implicitDefEqProofs (disch := first|with_reducible assumption|omega) [go_sem]
 refine in23_any _ _ _ ?_
 cases q1 : wi m.acct 0 63 with
 | false =>
  rw [show motHead m = false by simp [motHead, q1]] at hk0
  simp -dsimp -implicitDefEqProofs (disch := first|with_reducible assumption|omega) [go_sem]
  exact fin_tail (fin_here (by simpa using hk0))
 | true =>
 simp -dsimp -implicitDefEqProofs (disch := first|with_reducible assumption|omega) [go_sem]
 refine in23_any _ _ _ ?_
 cases q2 : wi m.to 0 63 with
 | false =>
  rw [show motHead m = false by simp [motHead, q2]] at hk0
  simp -dsimp -implicitDefEqProofs (disch := first|with_reducible assumption|omega) [go_sem]
  exact fin_tail (fin_here (by simpa using hk0))
 | true =>
 simp -dsimp -implicitDefEqProofs (disch := first|with_reducible assumption|omega) [go_sem]
 refine in23_any _ _ _ ?_
 cases q3 : wi m.what 1 4 with
 | false =>
  rw [show motHead m = false by simp [motHead, q3]] at hk0
  simp -dsimp -implicitDefEqProofs (disch := first|with_reducible assumption|omega) [go_sem]
  exact fin_tail (fin_here (by simpa using hk0))
 | true =>
 simp -dsimp -implicitDefEqProofs (disch := first|with_reducible assumption|omega) [go_sem]
 refine in23_any _ _ _ ?_
 cases q4 : wi m.state 1 4 with
 | false =>
  rw [show motHead m = false by simp [motHead, q4]] at hk0
  simp -dsimp -implicitDefEqProofs (disch := first|with_reducible assumption|omega) [go_sem]
  exact fin_tail (fin_here (by simpa using hk0))
 | true =>
 rw [show motHead m = true by simp [motHead, q1, q2, q3, q4]] at hk0
 simp -dsimp -implicitDefEqProofs (disch := first|with_reducible assumption|omega) [go_sem]
 refine in23_any _ _ _ ?_
 cases q5 : wi m.ends 0 2147483647 with
 | false =>
  rw [show motMid m = false by simp [motMid, q5]] at hk0
  simp -dsimp -implicitDefEqProofs (disch := first|with_reducible assumption|omega) [go_sem]
  exact fin_tail (fin_here (by simpa using hk0))
 | true =>
 simp -dsimp -implicitDefEqProofs (disch := first|with_reducible assumption|omega) [go_sem]
 refine in23_any _ _ _ ?_
 cases q6 : wi m.due 0 2147483647 with
 | false =>
  rw [show motMid m = false by simp [motMid, q6]] at hk0
  simp -dsimp -implicitDefEqProofs (disch := first|with_reducible assumption|omega) [go_sem]
  exact fin_tail (fin_here (by simpa using hk0))
 | true =>
 by_cases q7 : 4611686018427387904 < m.amt
 ·rw [show motMid m = false by simp [motMid]; omega] at hk0
  simp -dsimp -implicitDefEqProofs (disch := first|with_reducible assumption|omega) [go_sem]
  exact fin_tail (fin_here (by simpa using hk0))
 ·rw [show motMid m = true by simp [motMid, q5, q6]; omega] at hk0
  simp -dsimp -implicitDefEqProofs (disch := first|with_reducible assumption|omega) [go_sem]
  refine right20_any _ hy0 ?_
  cases q8 : chkB m.yes 128 with
  | false =>
   rw [q8] at hk0
   simp -dsimp -implicitDefEqProofs (disch := first|with_reducible assumption|omega) [go_sem]
   exact fin_tail (fin_here (by simpa using hk0))
  | true =>
  rw [q8] at hk0
  simp -dsimp -implicitDefEqProofs (disch := first|with_reducible assumption|omega) [go_sem]
  refine right20_any _ hn0 ?_
  cases q9 : chkB m.no 128 with
  | false =>
   rw [q9] at hk0
   simp -dsimp -implicitDefEqProofs (disch := first|with_reducible assumption|omega) [go_sem]
   exact fin_tail (fin_here (by simpa using hk0))
  | true =>
  rw [q9] at hk0
  have q10 : motHead m = true := by simp [motHead, q1, q2, q3, q4]
  have q11 : motMid m = true := by simp [motMid, q5, q6]; omega
  by_cases c : m.what = 1
  ·simp -dsimp -implicitDefEqProofs (disch := first|with_reducible assumption|omega) [go_sem]
   refine right7_any m.par ok.p fun h' le => ?_
   have hk1 := hk h' le
   rw [q8, q9, if_pos c, q10, q11] at hk1
   simp -dsimp -implicitDefEqProofs (disch := first|with_reducible assumption|omega) [go_sem]
   exact fin_tail (fin_here (by simpa using hk1))
  ·rw [if_neg c] at hk0
   simp -dsimp -implicitDefEqProofs (disch := first|with_reducible assumption|omega) [go_sem]
   refine (eqPar7 m.par zeroP _ _ _ _).mpr ?_
   simp -dsimp -implicitDefEqProofs (disch := first|with_reducible assumption|omega) [go_sem]
   exact fin_tail (fin_here (by simpa using hk0))
theorem row24_any {s : StD} (v : SV) (hs : IsSt h v s) (few : FewS s) {l : List Int} (lv : Value) (hlv : Ints h .i64 lv l) (st : Int) (hst : -9223372036854775808 ≤ st ∧ st ≤ 9223372036854775807) (hk : K (.bool (rowB s l st)) L h) : Spec Tryz.prog 118 [stV s v, lv, .int .i64 st] L h K := by
 obtain ⟨pa, pc, ma, mc, ea, ec, xa, xc, oa, oc, da, dc, ta, tc, ka, kc, ra, rc, rfl⟩ := hs.slices
 have hm : Recs memC 6 h (.slice ma s.members.length mc) s.members := hs.m
 have fm := few.m
 have hn := hlv.num
 have hlv0 := hlv
 obtain ⟨la, lc, rfl, hlc, hll, _, hcs⟩ := hlv.open
 refine x_enter Tryz.func118 rfl (rs := [_]) rfl rfl mixed (by kernel_rfl) rfl rfl ?_
 simp -dsimp -implicitDefEqProofs (disch := first|with_reducible assumption|omega) [go_sem]
 refine xnew fun b1 n_b1 h_b1 => ?_
 try simp only [Apart] at n_b1
 simp -dsimp -implicitDefEqProofs (disch := first|with_reducible assumption|omega) [go_sem]
 refine xloop (0 : Nat) (fun k => k ≤ l.length ∧ ∀ j, j < k → rowR1 s l st j = true) (fun k => [(7, .int .i64 k), (1, .slice la l.length lc), (2, .int .i64 st), (3, .pointer (some ⟨b1, 0, none⟩))]) (fun _ => ⟨b1, 54, stC s ⟨.slice pa s.purses.length pc, .slice ma s.members.length mc, .slice ea s.entry.length ec, .slice xa s.exit.length xc, .slice oa s.pool.length oc, .slice da s.dues.length dc, .slice ta s.motions.length tc, .slice ka s.marks.length kc, .slice ra s.ring.length rc⟩, 41⟩ :: L) (fun _ => h) (fun k => l.length - k) ?_ ?_ ?_ ?_
 ·exact ⟨Nat.zero_le _, fun j hj => by omega⟩
 ·simp [Ent, List.lookup, xEnv]
 ·exact Drop.refl _ _
 rintro k ⟨k1, k2⟩
 by_cases c1 : k < l.length
 ·have hnk := hn k
  simp -dsimp -implicitDefEqProofs (disch := first|with_reducible assumption|omega) [go_sem]
  refine xdraw (by kernel_rfl) rfl ?_
  simp -dsimp -implicitDefEqProofs (disch := first|with_reducible assumption|omega) [go_sem, idx hcs]
  refine xdcall _ (in24_any _ _ _ ⟨rfl, rfl, rfl⟩) ?_
  cases q1 : wi (at0 l k) 0 ((s.members.length : Int) - 1) with
  | false =>
   rw [row_no1 c1 (by simp only [rowR1, q1, Bool.false_and])] at hk
   simp -dsimp -implicitDefEqProofs (disch := first|with_reducible assumption|omega) [go_sem]
   exact fin_tail (fin_here hk)
  | true =>
  have q1' := wi_iff.1 q1
  simp -dsimp -implicitDefEqProofs (disch := first|with_reducible assumption|omega) [go_sem, idx hcs, ↓idxR zeroM (by decide) hm]
  refine (Recs.fld zeroM hm (j := (at0 l k).toNat) (o := 5) (by omega) (u := .int .i64 (gr zeroM s.members (at0 l k).toNat).status) rfl _ _ _).mpr ?_
  by_cases c2 : (gr zeroM s.members (at0 l k).toNat).status = st
  ·simp -dsimp -implicitDefEqProofs (disch := first|with_reducible assumption|omega) [go_sem, idx hcs]
   refine xdcall _ (find16_any (zs := l.take k) _ (at0 l k) (hlv0.take k (by omega)) ⟨rfl, rfl, rfl⟩) ?_
   have hf := fI_iff (l.take k) (at0 l k)
   by_cases c3 : 0 ≤ fI (l.take k) (at0 l k)
   ·rw [row_no1 c1 (by simp only [rowR1, decide_eq_true (hf.1 c3), Bool.not_true, Bool.and_false])] at hk
    simp -dsimp -implicitDefEqProofs (disch := first|with_reducible assumption|omega) [go_sem]
    exact fin_tail (fin_here hk)
   ·simp -dsimp -implicitDefEqProofs (disch := first|with_reducible assumption|omega) [go_sem]
    refine ⟨k + 1, ⟨by omega, fun j hj => ?_⟩, by omega, by simp [Ent, List.lookup], Drop.refl _ _⟩
    by_cases e : j = k
    ·subst e
     simp only [rowR1, q1, decide_eq_true c2, decide_eq_false (fun h => c3 (hf.2 h)), Bool.not_false, Bool.and_self]
    ·exact k2 j (by omega)
  ·rw [row_no1 c1 (by simp only [rowR1, decide_eq_false c2, Bool.false_and, Bool.and_false])] at hk
   simp -dsimp -implicitDefEqProofs (disch := first|with_reducible assumption|omega) [go_sem]
   exact fin_tail (fin_here hk)
 ·have hkl : k = l.length := by omega
  subst hkl
  simp -dsimp -implicitDefEqProofs (disch := first|with_reducible assumption|omega) [go_sem]
  refine xloop (0 : Nat) (fun k => k ≤ s.members.length ∧ ∀ j, j < k → (gr zeroM s.members j).status = st → (j : Int) ∈ l) (fun k => [(8, .int .i64 k), (1, .slice la l.length lc), (2, .int .i64 st), (3, .pointer (some ⟨b1, 0, none⟩))]) (fun _ => ⟨b1, 54, stC s ⟨.slice pa s.purses.length pc, .slice ma s.members.length mc, .slice ea s.entry.length ec, .slice xa s.exit.length xc, .slice oa s.pool.length oc, .slice da s.dues.length dc, .slice ta s.motions.length tc, .slice ka s.marks.length kc, .slice ra s.ring.length rc⟩, 41⟩ :: L) (fun _ => h) (fun k => s.members.length - k) ?_ ?_ ?_ ?_
  ·exact ⟨Nat.zero_le _, fun j hj => by omega⟩
  ·simp [Ent, List.lookup, xEnv]
  ·exact Drop.refl _ _
  rintro k ⟨m1, m2⟩
  by_cases c1 : k < s.members.length
  ·simp -dsimp -implicitDefEqProofs (disch := first|with_reducible assumption|omega) [go_sem, ↓idxR zeroM (by decide) hm]
   refine (Recs.fld zeroM hm (j := k) (o := 5) c1 (u := .int .i64 (gr zeroM s.members k).status) rfl _ _ _).mpr ?_
   by_cases c2 : (gr zeroM s.members k).status = st
   ·simp -dsimp -implicitDefEqProofs (disch := first|with_reducible assumption|omega) [go_sem]
    refine find16_any _ k hlv0 ?_
    have hf := fI_iff l k
    by_cases c3 : fI l k < 0
    ·have : rowB s l st = false := by
      cases hc : rowB s l st with
      | false => rfl
      | true => exact absurd ((row_iff.1 hc).2 k c1 c2) (fun h => by have := hf.2 h; omega)
     rw [this] at hk
     simp -dsimp -implicitDefEqProofs (disch := first|with_reducible assumption|omega) [go_sem]
     exact fin_tail (fin_here hk)
    ·simp -dsimp -implicitDefEqProofs (disch := first|with_reducible assumption|omega) [go_sem]
     refine ⟨k + 1, ⟨by omega, fun j hj => ?_⟩, by omega, by simp [Ent, List.lookup], Drop.refl _ _⟩
     by_cases e : j = k
     ·subst e; exact fun _ => hf.1 (by omega)
     ·exact m2 j (by omega)
   ·simp -dsimp -implicitDefEqProofs (disch := first|with_reducible assumption|omega) [go_sem]
    refine ⟨k + 1, ⟨by omega, fun j hj => ?_⟩, by omega, by simp [Ent, List.lookup], Drop.refl _ _⟩
    by_cases e : j = k
    ·subst e; exact fun h => absurd h c2
    ·exact m2 j (by omega)
  ·have : rowB s l st = true := row_iff.2 ⟨k2, fun j hj => m2 j (by omega)⟩
   rw [this] at hk
   simp -dsimp -implicitDefEqProofs (disch := first|with_reducible assumption|omega) [go_sem]
   exact fin_tail (fin_here hk)
end Go.X

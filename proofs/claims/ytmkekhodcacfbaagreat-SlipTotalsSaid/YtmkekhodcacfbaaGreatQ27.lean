/- Lemmas and contracts for a statement about the given program. Conditions: as each says. -/
import Derived.Test.YtmkekhodcacfbaaGreatQ16
import Derived.Test.YtmkekhodcacfbaaGreatQ17
import Derived.Test.YtmkekhodcacfbaaGreatQ18
import Derived.Test.YtmkekhodcacfbaaGreatQ19
import Derived.Test.YtmkekhodcacfbaaGreatQ21
import Derived.Test.YtmkekhodcacfbaaGreatQ23
set_option linter.unusedVariables false
set_option linter.unusedSimpArgs false
set_option maxHeartbeats 12800000
set_option maxRecDepth 20000
namespace Go.X
open Go.RowKit Go.Proofs Go.Bl
variable {L : Own} {h : PH} {K : PK}
theorem flat_ne {i j w m m' : Nat} (hm : m < w) (hm' : m' < w) (hij : i ≠ j) : i * w + m ≠ j * w + m' := fun e => by
 rcases Nat.lt_or_gt_of_ne hij with c | c
 ·have := Nat.mul_le_mul_right w (show i + 1 ≤ j from c)
  rw [Nat.succ_mul] at this
  omega
 ·have := Nat.mul_le_mul_right w (show j + 1 ≤ i from c)
  rw [Nat.succ_mul] at this
  omega
theorem flat_lt {i n w m : Nat} (hi : i < n) (hm : m < w) : i * w + m < n * w := by
 have := Nat.mul_le_mul_right w (show i + 1 ≤ n from hi)
 rw [Nat.succ_mul] at this
 omega
theorem flatG_set {α : Type} {f : α → List Value} {w : Nat} (hf : ∀ a, (f a).length = w) (z : α) (l : List α) {i m : Nat} (hi : i < l.length) (hm : m < w) {u : Value} {a' : α} (ha : f a' = (f (gr z l i)).set m u) : (l.flatMap f).set (i * w + m) u = (l.set i a').flatMap f := by
 apply List.ext_getElem?
 intro n
 obtain ⟨j, m', rfl, hm'⟩ : ∃ j m', n = j * w + m' ∧ m' < w := ⟨n / w, n % w, by rw [Nat.mul_comm, Nat.div_add_mod], Nat.mod_lt _ (by omega)⟩
 rw [flatG_get hf _ j m' hm', List.getElem?_set, flatG_get hf _ j m' hm', List.getElem?_set]
 by_cases e : i = j
 ·subst e
  have hll : i * w + m < (l.flatMap f).length := by rw [flatG_len hf]; exact flat_lt hi hm
  rw [if_pos rfl, if_pos hi]
  show _ = (f a')[m']?
  rw [ha, List.getElem?_set, gr_lt hi]
  by_cases e2 : m = m'
  ·subst e2
   rw [if_pos rfl, if_pos hll, if_pos rfl, if_pos (by rw [hf]; exact hm)]
  ·rw [if_neg (by omega), if_neg e2, List.getElem?_eq_getElem hi]
   rfl
 ·rw [if_neg (flat_ne hm hm' e), if_neg e]
theorem xNth_rec {α : Type} {f : α → List Value} {w : Nat} (hf : ∀ a, (f a).length = w) (z : α) (l : List α) {i m : Nat} (hi : i < l.length) (hm : m < w) {u : Value} (hu : (f (gr z l i))[m]? = some u) (K : Value → Prop) (t : Tok K) : xNth (l.flatMap f) (i * w + m) K t = K u :=
 xNth_of (by rw [flatG_get hf l i m hm, List.getElem?_eq_getElem hi, ← gr_lt (z := z) hi]; exact hu)
theorem oent_congr {e sz : Nat} (o : Option (Nat × Nat)) (xs : List Value) {L L' : Own} (hp : L.Perm L') : (oent e sz o xs L).Perm (oent e sz o xs L') := by
 cases o with
 | none => exact hp
 | some p => exact List.Perm.cons _ hp
structure OwnFew (s : StD) : Prop where
 p : s.purses.length ≤ 1000
 m : s.members.length ≤ 1000
 e : s.entry.length ≤ 1000
 x : s.exit.length ≤ 1000
 o : s.pool.length ≤ 1000
 d : s.dues.length ≤ 1000
 t : s.motions.length ≤ 1000
 k : s.marks.length ≤ 1000
 r : s.ring.length ≤ 1000
 v : ∀ m ∈ s.motions, m.yes.length ≤ 1000 ∧ m.no.length ≤ 1000
 b : ∀ b ∈ s.ring, b.length ≤ 1000
structure BeOk (ms : List MemD) (ps : List Int) : Prop where
 m : ∀ x ∈ ms, MemOk x
 o : ∀ x ∈ ms, 0 ≤ x.owner ∧ x.owner < ps.length
 p : ∀ i, 0 ≤ at0 ps i
 t : tot ps + tot (ms.map MemD.bal) ≤ 4611686018427387904
def dTot (l : List DueD) : Int := tot (l.map DueD.amt)
structure DuOk (l : List DueD) (n : Nat) (M : Int) : Prop where
 d : ∀ x ∈ l, DueOk x
 t : dTot l ≤ M
 n : l.length ≤ n
def flt (l : List Int) (k : Int) : List Int := l.filter fun x => decide (x ≠ k)
theorem flt_none {xs : List Int} {k : Int} (h : ∀ j, j < xs.length → at0 xs j ≠ k) : flt xs k = xs := by
 rw [flt, List.filter_eq_self]
 intro x hx
 obtain ⟨j, hj, rfl⟩ := List.mem_iff_getElem.1 hx
 have := h j hj
 rw [← at0_lt hj] at this
 simpa using this
def fI (zs : List Int) (x : Int) : Int := if firstN (fun k => decide (at0 zs k = x)) zs.length 0 = zs.length then -1 else (firstN (fun k => decide (at0 zs k = x)) zs.length 0 : Nat)
theorem fI_iff (zs : List Int) (x : Int) : 0 ≤ fI zs x ↔ x ∈ zs := by
 obtain ⟨_, h2, h3, h4⟩ := firstN_spec (fun k => decide (at0 zs k = x)) zs.length 0
 unfold fI
 constructor
 ·intro h
  split at h
  ·omega
  ·rename_i c
   have := h4 (by omega)
   simp only [decide_eq_true_eq] at this
   rw [← this, ← at0_lt (by omega)]
   exact List.getElem_mem _
 ·intro h
  obtain ⟨j, hj, e⟩ := List.mem_iff_getElem.1 h
  rw [if_neg]
  ·omega
  ·intro c
   have := h3 j (by omega) (by omega)
   rw [at0_lt hj] at e
   simp [e] at this
end Go.X

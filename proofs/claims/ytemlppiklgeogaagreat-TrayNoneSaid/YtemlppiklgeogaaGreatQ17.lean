/- Part of the proof of a statement about the given program: lemmas and contracts. Conditions: as each says. -/
import Derived.Laws.Externs
import Derived.Test.YtemlppiklgeogaaGreatQ03
import Derived.Test.YtemlppiklgeogaaGreatQ04
import Derived.Test.YtemlppiklgeogaaGreatQ06
import Derived.Test.YtemlppiklgeogaaGreatQ07
import Derived.Test.YtemlppiklgeogaaGreatQ09
import Derived.Test.YtemlppiklgeogaaGreatQ12
import Derived.Test.YtemlppiklgeogaaGreatQ15
import Derived.Test.YtemlppiklgeogaaGreatQ16
/- Contracts of package money, of purse.All, pool.Sum, and of package supply up to Holds. Conditions: the values read as lists of numbers, or as a state. -/
set_option linter.unusedVariables false
set_option linter.unusedSimpArgs false
namespace Go.X
open Go.RowKit Go.Proofs Go.Bl
variable {L : Own} {h : PH} {K : PK}
/-- a call's result may be left as it stands behind some forgetting -/
theorem Spec.fin {f : FuncId} {args : List Value} {L : Own} {h : PH} {K : PK} (hs : Spec Tryz.prog f args L h fun v L' h' => fin K v L' h') : Spec Tryz.prog f args L h K :=
  ⟨trivial, fun W hg => (hs.2 W hg).mono fun e W' ⟨r, L', h', he, ⟨L2, h2, hd, hk⟩, st⟩ => by
    obtain ⟨g, f⟩ := hd W' st.1
    refine ⟨r, L2, h2, he, hk, g, st.2.1, fun e he => ?_⟩
    obtain ⟨e', he', hb⟩ := List.mem_map.1 (f e he)
    rw [← hb]; exact st.2.2 e' he'⟩
end Go.X
/-! Contracts of pool.Sum, supply.Parts, Sheet.Total and supply.Holds. Conditions: the values read as lists of records, or as a state. -/
namespace Go.X
open Go.RowKit Go.Proofs Go.Bl
variable {L : Own} {h : PH} {K : PK}
/-- a state that a play goes through with -/
structure FewS (s : StD) : Prop where
  p : s.purses.length ≤ 100000
  m : s.members.length ≤ 100000
  e : s.entry.length ≤ 100000
  x : s.exit.length ≤ 100000
  o : s.pool.length ≤ 100000
  d : s.dues.length ≤ 100000
  t : s.motions.length ≤ 100000
  r : s.ring.length ≤ 100000
end Go.X
/- Contracts of the parts of state.Fits: within, account, purses, row, members, motions, marks; of moot.Fits and roll.Check. Conditions: the value reads as a state. -/
set_option linter.unusedVariables false
set_option linter.unusedSimpArgs false
namespace Go.X
open Go.RowKit Go.Proofs Go.Bl
variable {L : Own} {h : PH} {K : PK}
theorem all_gr {α : Type} (z : α) (q : α → Bool) (l : List α) (hq : ∀ j, j < l.length → q (gr z l j) = true) : l.all q = true := by
  rw [List.all_eq_true]
  intro x hx
  obtain ⟨j, hj, rfl⟩ := List.mem_iff_getElem.1 hx
  have := hq j hj
  rwa [gr_lt hj] at this
theorem not_all_gr {α : Type} (z : α) (q : α → Bool) (l : List α) {k : Nat} (hk : k < l.length) (hq : q (gr z l k) = false) : l.all q = false := by
  rw [List.all_eq_false]
  rw [gr_lt hk] at hq
  exact ⟨l[k], List.getElem_mem hk, by simp [hq]⟩
theorem IsSt.slices {v : SV} {s : StD} (hs : IsSt h v s) : ∃ pa pc ma mc ea ec xa xc oa oc da dc ta tc ka kc ra rc,
    v = ⟨.slice pa s.purses.length pc, .slice ma s.members.length mc, .slice ea s.entry.length ec, .slice xa s.exit.length xc, .slice oa s.pool.length oc, .slice da s.dues.length dc, .slice ta s.motions.length tc, .slice ka s.marks.length kc, .slice ra s.ring.length rc⟩ := by
  obtain ⟨pa, pc, hp, _⟩ := hs.p.open
  obtain ⟨ma, mc, hm, _⟩ := hs.m.open
  obtain ⟨ea, ec, he, _⟩ := hs.e.open
  obtain ⟨xa, xc, hx, _⟩ := hs.x.open
  obtain ⟨oa, oc, ho, _⟩ := hs.o.open
  obtain ⟨da, dc, hd, _⟩ := hs.d.open
  obtain ⟨q, t1, t2, _⟩ := hs.t
  obtain ⟨ta, tc, ht, _⟩ := t1.open
  obtain ⟨ka, kc, hk, _⟩ := hs.k.open
  obtain ⟨r, r1, r2⟩ := hs.r
  obtain ⟨ra, rc, hr, _⟩ := r1.open
  refine ⟨pa, pc, ma, mc, ea, ec, xa, xc, oa, oc, da, dc, ta, tc, ka, kc, ra, rc, ?_⟩
  rw [← t2, ← r2, List.length_map, xsL_len]
  obtain ⟨vp, vm, ve, vx, vo, vd, vt, vk, vr⟩ := v
  simp only at hp hm he hx ho hd ht hk hr
  subst hp hm he hx ho hd ht hk hr
  rfl
/-! ### motions -/
/-! ### marks -/
end Go.X
/- The contract of image.through for the image's writer. Conditions: the writer and the state are the call's own; the state may be written. -/
set_option linter.unusedVariables false
set_option linter.unusedSimpArgs false
set_option maxRecDepth 20000
namespace Go.X
open Go.RowKit Go.Proofs Go.Bl
variable {L : Own} {h : PH} {K : PK}
/-- a state that may be written -/
structure StW (s : StD) : Prop where
  par : parR s.par = true
  ep : 0 ≤ s.ep
  calm : 0 ≤ s.calm
  m : ∀ x ∈ s.members, 0 ≤ x.streak ∧ 0 ≤ x.owner ∧ 0 ≤ x.status
  e : ∀ x ∈ s.entry, 0 ≤ x
  x : ∀ x ∈ s.exit, 0 ≤ x
  o : ∀ x ∈ s.pool, 0 ≤ x.acct ∧ 0 ≤ x.mem
  d : ∀ x ∈ s.dues, 0 ≤ x.acct ∧ 0 ≤ x.at'
  t : ∀ x ∈ s.motions, MotW x
  k : s.marks.length ≤ 50
  r : ∀ x ∈ s.ring, x.length ≤ 50
  lp : s.purses.length ≤ 64
  lm : s.members.length ≤ 128
  le : s.entry.length ≤ 128
  lx : s.exit.length ≤ 128
  lo : s.pool.length ≤ 256
  ld : s.dues.length ≤ 1700
  lt : s.motions.length ≤ 32
  lr : s.ring.length ≤ 8
end Go.X
/- Contracts of member.Counts, bullionlaw24.Few. Conditions: the value reads as a member, as a state. -/
set_option linter.unusedVariables false
set_option linter.unusedSimpArgs false
set_option maxRecDepth 20000
namespace Go.X
open Go.RowKit Go.Proofs Go.Bl
variable {L : Own} {h : PH} {K : PK}
def few9 (s : StD) : Bool := decide (s.purses.length ≤ 100) && decide (s.members.length ≤ 200) && decide (s.entry.length ≤ 300) && decide (s.exit.length ≤ 300) && decide (s.pool.length ≤ 300) && decide (s.dues.length ≤ 200) && decide (s.motions.length ≤ 40) && decide (s.ring.length ≤ 20) && decide (s.marks.length ≤ 50)
def fewB (s : StD) : Bool := few9 s && s.ring.all (fun b => decide (b.length ≤ 50)) && s.motions.all (fun m => decide (m.yes.length ≤ 50) && decide (m.no.length ≤ 50))
set_option maxHeartbeats 6400000 in
theorem few24_any {s : StD} (v : SV) (hs : IsSt h v s) (hk : K (.bool (fewB s)) L h) : Spec Tryz.prog 13 [stV s v] L h K := by
  obtain ⟨pa, pc, ma, mc, ea, ec, xa, xc, oa, oc, da, dc, ta, tc, ka, kc, ra, rc, rfl⟩ := hs.slices
  have no : fewB s = false → K (.bool false) L h := fun e => by rwa [e] at hk
  refine x_enter Tryz.func13 rfl (rs := [_]) rfl rfl mixed (by kernel_rfl) rfl rfl ?_
  simp -dsimp -implicitDefEqProofs (disch := first | with_reducible assumption | omega) [go_sem]
  refine xnew fun b1 n_b1 h_b1 => ?_
  try simp only [Apart] at n_b1
  simp -dsimp -implicitDefEqProofs (disch := first | with_reducible assumption | omega) [go_sem]
  by_cases c1 : 100 < s.purses.length
  · have := no (by simp only [fewB, few9, decide_eq_false (p := s.purses.length ≤ 100) (by omega), Bool.false_and, Bool.and_false])
    simp -dsimp -implicitDefEqProofs (disch := first | with_reducible assumption | omega) [go_sem]
    exact fin_tail (fin_here this)
  by_cases c2 : 200 < s.members.length
  · have := no (by simp only [fewB, few9, decide_eq_false (p := s.members.length ≤ 200) (by omega), Bool.false_and, Bool.and_false])
    simp -dsimp -implicitDefEqProofs (disch := first | with_reducible assumption | omega) [go_sem]
    exact fin_tail (fin_here this)
  by_cases c3 : 300 < s.entry.length
  · have := no (by simp only [fewB, few9, decide_eq_false (p := s.entry.length ≤ 300) (by omega), Bool.false_and, Bool.and_false])
    simp -dsimp -implicitDefEqProofs (disch := first | with_reducible assumption | omega) [go_sem]
    exact fin_tail (fin_here this)
  by_cases c4 : 300 < s.exit.length
  · have := no (by simp only [fewB, few9, decide_eq_false (p := s.exit.length ≤ 300) (by omega), Bool.false_and, Bool.and_false])
    simp -dsimp -implicitDefEqProofs (disch := first | with_reducible assumption | omega) [go_sem]
    exact fin_tail (fin_here this)
  by_cases c5 : 300 < s.pool.length
  · have := no (by simp only [fewB, few9, decide_eq_false (p := s.pool.length ≤ 300) (by omega), Bool.false_and, Bool.and_false])
    simp -dsimp -implicitDefEqProofs (disch := first | with_reducible assumption | omega) [go_sem]
    exact fin_tail (fin_here this)
  by_cases c6 : 200 < s.dues.length
  · have := no (by simp only [fewB, few9, decide_eq_false (p := s.dues.length ≤ 200) (by omega), Bool.false_and, Bool.and_false])
    simp -dsimp -implicitDefEqProofs (disch := first | with_reducible assumption | omega) [go_sem]
    exact fin_tail (fin_here this)
  by_cases c7 : 40 < s.motions.length
  · have := no (by simp only [fewB, few9, decide_eq_false (p := s.motions.length ≤ 40) (by omega), Bool.false_and, Bool.and_false])
    simp -dsimp -implicitDefEqProofs (disch := first | with_reducible assumption | omega) [go_sem]
    exact fin_tail (fin_here this)
  by_cases c8 : 20 < s.ring.length
  · have := no (by simp only [fewB, few9, decide_eq_false (p := s.ring.length ≤ 20) (by omega), Bool.false_and, Bool.and_false])
    simp -dsimp -implicitDefEqProofs (disch := first | with_reducible assumption | omega) [go_sem]
    exact fin_tail (fin_here this)
  by_cases c9 : 50 < s.marks.length
  · have := no (by simp only [fewB, few9, decide_eq_false (p := s.marks.length ≤ 50) (by omega), Bool.false_and, Bool.and_false])
    simp -dsimp -implicitDefEqProofs (disch := first | with_reducible assumption | omega) [go_sem]
    exact fin_tail (fin_here this)
  have f9 : few9 s = true := by
    simp only [few9, Bool.and_eq_true, decide_eq_true_eq]
    omega
  obtain ⟨qr, hdr, tr⟩ := hs.r
  have hqr : qr.length = s.ring.length := by rw [← tr, xsL_len]
  simp only at hdr
  obtain ⟨_, _, hre, _, _, _, hcr, hdd⟩ := hdr.open
  injection hre with hre1 hre2 hre3
  subst hre1
  subst hre3
  have hcr' : ∀ j, j < s.ring.length → elemCell h ra j = some ((fun j => (gs qr j).1) j) := fun j hj => hcr j (by omega)
  have hgs : ∀ j, j < qr.length → gr [] s.ring j = (gs qr j).2 := fun j hj => by
    rw [← tr, gr_lt (by rw [xsL_len]; exact hj), gs_lt hj]; simp [xsL]
  simp -dsimp -implicitDefEqProofs (disch := first | with_reducible assumption | omega) [go_sem]
  refine xloop (0 : Nat) (fun k => k ≤ s.ring.length ∧ ∀ j, j < k → (fun b : List Int => decide (b.length ≤ 50)) (gr [] s.ring j) = true) (fun k => [(62, .int .i64 k), (61, .int .i64 s.ring.length), (60, .slice ra s.ring.length rc), (1, .pointer (some ⟨b1, 0, none⟩))]) (fun _ => ⟨b1, 34, stC s ⟨.slice pa s.purses.length pc, .slice ma s.members.length mc, .slice ea s.entry.length ec, .slice xa s.exit.length xc, .slice oa s.pool.length oc, .slice da s.dues.length dc, .slice ta s.motions.length tc, .slice ka s.marks.length kc, .slice ra s.ring.length rc⟩, 41⟩ :: L) (fun _ => h) (fun k => s.ring.length - k) ?_ ?_ ?_ ?_
  · exact ⟨Nat.zero_le _, fun j hj => by omega⟩
  · simp [Ent, List.lookup, xEnv]
  · exact Drop.refl _ _
  rintro k ⟨k1, k2⟩
  by_cases d1 : k < s.ring.length
  · have hi := hdd.at (i := k) (by omega)
    obtain ⟨x1, y1, hv1, _⟩ := hi.open
    have hg := hgs k (by omega)
    simp -dsimp -implicitDefEqProofs (disch := first | with_reducible assumption | omega) [go_sem, idx hcr', hv1]
    by_cases d2 : 50 < (gs qr k).2.length
    · have := no (by simp only [fewB, not_all_gr [] (fun b : List Int => decide (b.length ≤ 50)) s.ring d1 (by rw [hg]; exact decide_eq_false (by omega)), Bool.false_and, Bool.and_false])
      simp -dsimp -implicitDefEqProofs (disch := first | with_reducible assumption | omega) [go_sem]
      exact fin_tail (fin_here this)
    · simp -dsimp -implicitDefEqProofs (disch := first | with_reducible assumption | omega) [go_sem]
      refine ⟨k + 1, ⟨by omega, fun j hj => ?_⟩, by omega, by simp [Ent, List.lookup], Drop.refl _ _⟩
      by_cases e : j = k
      · subst e; rw [hg]; first | omega | exact decide_eq_true (by omega)
      · first | exact k2 j (by omega) | simpa using k2 j (by omega)
  have hkl : k = s.ring.length := by omega
  subst hkl
  have rall := all_gr [] (fun b : List Int => decide (b.length ≤ 50)) s.ring k2
  clear k2 d1 k1
  obtain ⟨q, hd, t2, t3⟩ := hs.t
  have hql : q.length = s.motions.length := by rw [← t2, List.length_map]
  have hgr : ∀ k, k < q.length → gr zeroMot s.motions k = (gr zeroQM q k).2.2 := fun k hk => by
    rw [gr_lt hk, gr_lt (by omega)]
    simp only [← t2, List.getElem_map]
  simp only at hd
  simp -dsimp -implicitDefEqProofs (disch := first | with_reducible assumption | omega) [go_sem]
  refine xloop (0 : Nat) (fun k => k ≤ s.motions.length ∧ ∀ j, j < k → (fun m : MotD => decide (m.yes.length ≤ 50) && decide (m.no.length ≤ 50)) (gr zeroMot s.motions j) = true) (fun k => [(73, .int .i64 k), (72, .int .i64 s.motions.length), (71, .slice ta s.motions.length tc), (1, .pointer (some ⟨b1, 0, none⟩))]) (fun _ => ⟨b1, 34, stC s ⟨.slice pa s.purses.length pc, .slice ma s.members.length mc, .slice ea s.entry.length ec, .slice xa s.exit.length xc, .slice oa s.pool.length oc, .slice da s.dues.length dc, .slice ta s.motions.length tc, .slice ka s.marks.length kc, .slice ra s.ring.length rc⟩, 41⟩ :: L) (fun _ => h) (fun k => s.motions.length - k) ?_ ?_ ?_ ?_
  · exact ⟨Nat.zero_le _, fun j hj => by omega⟩
  · simp [Ent, List.lookup, xEnv]
  · exact Drop.refl _ _
  rintro k ⟨k1, k2⟩
  by_cases d1 : k < s.motions.length
  · have hx : IsMot h (gr zeroQM q k) := by rw [gr_lt (by omega)]; exact t3 _ (List.getElem_mem (by omega))
    have hg := hgr k (by omega)
    obtain ⟨x1, y1, hv1, _⟩ := hx.y.open
    obtain ⟨x2, y2, hv2, _⟩ := hx.n.open
    simp -dsimp -implicitDefEqProofs (disch := first | with_reducible assumption | omega) [go_sem, ↓idxR zeroQM (by decide) hd, motC]
    refine xnew fun b2 n_b2 h_b2 => ?_
    try simp only [Apart] at n_b2
    simp -dsimp -implicitDefEqProofs (disch := first | with_reducible assumption | omega) [go_sem, motC, hv1, hv2]
    by_cases d2 : 50 < (gr zeroQM q k).2.2.yes.length
    · have := no (by simp only [fewB, not_all_gr zeroMot (fun m : MotD => decide (m.yes.length ≤ 50) && decide (m.no.length ≤ 50)) s.motions d1 (by rw [hg]; simp; omega), Bool.and_false])
      simp -dsimp -implicitDefEqProofs (disch := first | with_reducible assumption | omega) [go_sem]
      exact fin_tail (fin_tail (fin_here this))
    by_cases d3 : 50 < (gr zeroQM q k).2.2.no.length
    · have := no (by simp only [fewB, not_all_gr zeroMot (fun m : MotD => decide (m.yes.length ≤ 50) && decide (m.no.length ≤ 50)) s.motions d1 (by rw [hg]; simp; omega), Bool.and_false])
      simp -dsimp -implicitDefEqProofs (disch := first | with_reducible assumption | omega) [go_sem]
      exact fin_tail (fin_tail (fin_here this))
    simp -dsimp -implicitDefEqProofs (disch := first | with_reducible assumption | omega) [go_sem]
    refine ⟨k + 1, ⟨by omega, fun j hj => ?_⟩, by omega, by simp [Ent, List.lookup], Drop.tail _ _ _⟩
    by_cases e : j = k
    · subst e; rw [hg]; first | omega | (simp; omega)
    · first | exact k2 j (by omega) | simpa using k2 j (by omega)
  · have hkl : k = s.motions.length := by omega
    subst hkl
    have tall := all_gr zeroMot (fun m : MotD => decide (m.yes.length ≤ 50) && decide (m.no.length ≤ 50)) s.motions k2
    have yes : fewB s = true := by simp only [fewB, f9, rall, tall, Bool.and_self]
    rw [yes] at hk
    simp -dsimp -implicitDefEqProofs (disch := first | with_reducible assumption | omega) [go_sem]
    exact fin_tail (fin_here hk)
end Go.X
/- Plain laws of reading a state's image: what is written is read as it was; cut off it is not all there; what is read has just these bytes. Conditions: as each lemma says (no function of the program). -/
set_option linter.unusedVariables false
set_option linter.unusedSimpArgs false
namespace Go.X
open Go.RowKit Go.Bl
/-- a reader of images: the place, the failure; the parameters' error -/
abbrev RS := (Nat × Int) × Int
def Gd (r : RS) : Prop := r.2 = 0 ∧ r.1.2 = 0
instance gdDec (r : RS) : Decidable (Gd r) := by unfold Gd; infer_instance
/-- ahead lies b, or (c) only a beginning of it -/
def At (c : Bool) (xs : List Int) (r : RS) (b : List Int) : Prop := r.2 = 0 ∧ if c then Short xs r.1 b else r.1.2 = 0 ∧ xs.drop r.1.1 = b
/-- a way of reading and a way of writing belong together -/
structure Cod {α : Type} (xs : List Int) (f : RS → α × RS) (enc : α → List Int) (P R : α → Prop) : Prop where
  stop : ∀ r, ¬ Gd r → (f r).2 = r
  pos : ∀ r, r.1.1 ≤ xs.length → (f r).2.1.1 ≤ xs.length ∧ R (f r).1
  sound : ∀ r, r.1.1 ≤ xs.length → Gd (f r).2 → Gd r ∧ xs.drop r.1.1 = enc (f r).1 ++ xs.drop (f r).2.1.1
  ahead : ∀ c a rest r, P a → At c xs r (enc a ++ rest) → (c = true ∧ (f r).2.1.2 = 50) ∨ (f r).1 = a ∧ At c xs (f r).2 rest
def iN (xs : List Int) (most : Int) (r : RS) : Int × RS := if r.2 = 0 then ((rNum xs r.1 most).1, ((rNum xs r.1 most).2, r.2)) else (0, r)
section
variable {xs : List Int}
def mp {α β : Type} (k : α → β) (f : RS → α × RS) (r : RS) : β × RS := (k (f r).1, (f r).2)
end
end Go.X
/- Plain laws of images: members, deposits, dues, motions, the whole state, read back; what image.Decode answers. Conditions: as each lemma says (no function of the program). -/
set_option linter.unusedVariables false
set_option linter.unusedSimpArgs false
set_option maxRecDepth 4000
namespace Go.X
open Go.RowKit Go.Bl
abbrev i64 (xs : List Int) := iN xs 18446744073709551615
def w64 (z : Int) : Prop := 0 ≤ z ∧ z ≤ 18446744073709551615
def w31 (z : Int) : Prop := 0 ≤ z ∧ z ≤ 2147483647
section
variable {xs : List Int}
def MemP (m : MemD) : Prop := w64 m.bal ∧ w64 m.eff ∧ w64 m.score ∧ w31 m.streak ∧ w31 m.owner ∧ w31 m.status
theorem MemP.ok {m : MemD} (h : MemP m) : MemOk m := by
  obtain ⟨h1, h2, h3, h4, h5, h6⟩ := h
  unfold w64 w31 at *
  refine ⟨fun z hz => ?_, fun z hz => ?_⟩
  · simp only [List.mem_cons, List.not_mem_nil, or_false] at hz
    rcases hz with rfl | rfl | rfl <;> assumption
  · simp only [List.mem_cons, List.not_mem_nil, or_false] at hz
    rcases hz with rfl | rfl | rfl <;> omega
def DepP (d : DepD) : Prop := w31 d.acct ∧ w31 d.mem ∧ w64 d.amt ∧ True
theorem DepP.ok {d : DepD} (h : DepP d) : DepOk d := by
  obtain ⟨h1, h2, h3, _⟩ := h
  unfold w64 w31 at *
  refine ⟨h3, fun z hz => ?_⟩
  simp only [List.mem_cons, List.not_mem_nil, or_false] at hz
  rcases hz with rfl | rfl <;> omega
def DueP (d : DueD) : Prop := w31 d.acct ∧ w31 d.at' ∧ w64 d.amt
theorem DueP.ok {d : DueD} (h : DueP d) : DueOk d := by
  obtain ⟨h1, h2, h3⟩ := h
  unfold w64 w31 at *
  refine ⟨h3, fun z hz => ?_⟩
  simp only [List.mem_cons, List.not_mem_nil, or_false] at hz
  rcases hz with rfl | rfl <;> omega
def bitR (b : List Int) : Prop := b.length ≤ 32 ∧ ∀ z ∈ b, 0 ≤ z ∧ z ≤ 255
def MotR (m : MotD) : Prop := w31 m.acct ∧ w31 m.what ∧ ParOk m.par ∧ w31 m.to ∧ w64 m.amt ∧ w31 m.ends ∧ w31 m.due ∧ w31 m.state ∧ bitR m.yes ∧ bitR m.no
theorem MotR.ok {d : MotD} (h : MotR d) : MotOk d := by
  obtain ⟨h1, h2, h3, h4, h5, h6, h7, h8, _⟩ := h
  unfold w64 w31 at *
  refine ⟨h5, fun z hz => ?_, h3⟩
  simp only [List.mem_cons, List.not_mem_nil, or_false] at hz
  rcases hz with rfl | rfl | rfl | rfl | rfl | rfl <;> omega
end
end Go.X
/- Contracts of the closures of image.through and of image.motion, for the image's reader. Conditions: the reader, its pen, and what is read into are the call's own. -/
set_option linter.unusedVariables false
set_option linter.unusedSimpArgs false
set_option maxRecDepth 20000
namespace Go.X
open Go.RowKit Go.Proofs Go.Bl
variable {L : Own} {h : PH} {K : PK}
/-- a motion's cells -/
def mc (a b : Value) (p : ParD) (c d e f g y n : Value) : List Value := a :: b :: (parC p ++ [c, d, e, f, g, y, n])
section
variable (a b c d e f g y n x : Value) (p p' : ParD)
end
end Go.X
/- Contracts of image.list for the image's reader. Conditions: the reader, its pen, and the list's place are the call's own. -/
set_option linter.unusedVariables false
set_option linter.unusedSimpArgs false
set_option maxRecDepth 20000
namespace Go.X
open Go.RowKit Go.Proofs Go.Bl
variable {L : Own} {h : PH} {K : PK}
theorem Drop.sub {L L0 : Own} {h : PH} (hs : L0.Sublist L) : Drop L h L0 h := fun W hg =>
  ⟨⟨hg.sub, fun e he => hg.own e (hs.subset he), hg.nodup.sublist (hs.map _), fun e he => hg.apart e (hs.subset he)⟩, fun e he => List.mem_map_of_mem (hs.subset he)⟩
theorem apart_sub {b : Nat} {L0 L : Own} (hs : L0.Sublist L) : Apart b L → Apart b L0 := by
  induction hs with
  | slnil => exact id
  | cons a _ ih => exact fun h => ih h.2
  | cons_cons a _ ih => exact fun h => ⟨h.1, ih h.2⟩
theorem apO_sub {o : Option (Nat × Nat)} {L0 L : Own} {h : PH} (hs : L0.Sublist L) (ha : apO o L h) : apO o L0 h := by
  cases o with
  | none => trivial
  | some p => exact ⟨apart_sub hs ha.1, ha.2⟩
end Go.X
/- Contracts of image.list of motions and of byte strings, for the image's reader. Conditions: the reader, its pen, and the list's place are the call's own. -/
set_option linter.unusedVariables false
set_option linter.unusedSimpArgs false
set_option maxRecDepth 20000
namespace Go.X
open Go.RowKit Go.Proofs Go.Bl
variable {L : Own} {h : PH} {K : PK}
/-- a motion that is read, with the slices of its votes -/
def MotI (h : PH) (x : QM) : Prop := Ints h .u8 x.1 x.2.2.yes ∧ Ints h .u8 x.2.1 x.2.2.no
theorem MotI.up {h h' : PH} (le : PH.le h h') {x : QM} (hx : MotI h x) : MotI h' x := ⟨hx.1.up le, hx.2.up le⟩
def StrI (h : PH) (x : QS) : Prop := Ints h .u8 x.1 x.2
theorem StrI.up {h h' : PH} (le : PH.le h h') {x : QS} (hx : StrI h x) : StrI h' x := Ints.up le hx
end Go.X
/- Contracts of tray.same, own, behind, math/bits.Len64 of small numbers. Conditions: as each says. -/
set_option linter.unusedVariables false
set_option linter.unusedSimpArgs false
set_option maxRecDepth 20000
namespace Go.X
open Go.RowKit Go.Proofs Go.Bl
variable {L : Own} {h : PH} {K : PK}
def dT1 : DeedD := ⟨1, 0, 0, 1, 1, 0, [], 0, zeroP, 0, false⟩
def dT2 : DeedD := ⟨1, 0, 0, 1, 2, 0, [], 0, zeroP, 0, false⟩
def itemC (id tip : Int) (d : DeedD) (bv : Value) : List Value := .int .i64 id :: .int .u64 tip :: deedC d bv
abbrev itemV (id tip : Int) (d : DeedD) (bv : Value) : Value := .agg (itemC id tip d bv).toArray
theorem same12 (hk : K (.bool false) L h) : Spec Tryz.prog 146 [deedV dT1 (.slice none 0 0), deedV dT2 (.slice none 0 0)] L h K := by
  refine x_enter Tryz.func146 rfl (rs := [_]) rfl rfl mixed (by kernel_rfl) rfl rfl ?_
  simp -dsimp -implicitDefEqProofs (disch := first | with_reducible assumption | omega) [go_sem]
  refine xnew fun b2 n_b2 h_b2 => ?_
  try simp only [Apart] at n_b2
  simp -dsimp -implicitDefEqProofs (disch := first | with_reducible assumption | omega) [go_sem]
  refine xnew fun b3 n_b3 h_b3 => ?_
  try simp only [Apart] at n_b3
  simp -dsimp -implicitDefEqProofs (disch := first | with_reducible assumption | omega) [go_sem, dT1, dT2]
  exact fin_tail (fin_tail (fin_here hk))
theorem behind_lt {i1 t1 i2 t2 : Int} {d1 d2 : DeedD} {v1 v2 : Value} (ht : t2 < t1) (hk : K (.int .i64 (-1)) L h) : Spec Tryz.prog 150 [itemV i1 t1 d1 v1, itemV i2 t2 d2 v2] L h K := by
  refine x_enter Tryz.func150 rfl (rs := [_]) rfl rfl mixed (by kernel_rfl) rfl rfl ?_
  simp -dsimp -implicitDefEqProofs (disch := first | with_reducible assumption | omega) [go_sem, itemC, deedC]
  refine xnew fun b2 n_b2 h_b2 => ?_
  try simp only [Apart] at n_b2
  simp -dsimp -implicitDefEqProofs (disch := first | with_reducible assumption | omega) [go_sem, itemC, deedC]
  refine xnew fun b3 n_b3 h_b3 => ?_
  try simp only [Apart] at n_b3
  simp -dsimp -implicitDefEqProofs (disch := first | with_reducible assumption | omega) [go_sem, itemC, deedC]
  exact fin_tail (fin_tail (fin_here hk))
theorem clone8_nil (hk : K (.slice none 0 0) L h) : Spec Tryz.prog 126 [.slice none 0 0] L h K := by
  refine x_enter Tryz.func126 rfl (rs := [_]) rfl rfl mixed (by kernel_rfl) rfl rfl ?_
  simp -dsimp -implicitDefEqProofs (disch := first | with_reducible assumption | omega) [go_sem]
  exact fin_here hk
theorem town_nil {i t : Int} {d : DeedD} (hk : K (itemV i t d (.slice none 0 0)) L h) : Spec Tryz.prog 148 [itemV i t d (.slice none 0 0)] L h K := by
  refine x_enter Tryz.func148 rfl (rs := [_]) rfl rfl mixed (by kernel_rfl) rfl rfl ?_
  simp -dsimp -implicitDefEqProofs (disch := first | with_reducible assumption | omega) [go_sem, itemC, deedC]
  refine xnew fun b1 n_b1 h_b1 => ?_
  try simp only [Apart] at n_b1
  simp -dsimp -implicitDefEqProofs (disch := first | with_reducible assumption | omega) [go_sem, itemC, deedC]
  refine xnew fun b2 n_b2 h_b2 => ?_
  try simp only [Apart] at n_b2
  simp -dsimp -implicitDefEqProofs (disch := first | with_reducible assumption | omega) [go_sem, itemC, deedC]
  refine clone8_nil ?_
  simp -dsimp -implicitDefEqProofs (disch := first | with_reducible assumption | omega) [go_sem]
  exact fin_tail (fin_tail (fin_here hk))
theorem len64_1 (hk : K (.int .i64 1) L h) : Spec Tryz.prog 322 [.int .u64 1] L h K := by
  refine x_enter Tryz.func322 rfl (rs := [_]) rfl rfl mixed (by kernel_rfl) rfl rfl ?_
  simp -dsimp -implicitDefEqProofs (disch := first | with_reducible assumption | omega) [go_sem]
  refine ⟨.int .u8 1, fun W => by kernel_rfl, ?_⟩
  simp -dsimp -implicitDefEqProofs (disch := first | with_reducible assumption | omega) [go_sem]
  exact fin_here hk
theorem len64_2 (hk : K (.int .i64 2) L h) : Spec Tryz.prog 322 [.int .u64 2] L h K := by
  refine x_enter Tryz.func322 rfl (rs := [_]) rfl rfl mixed (by kernel_rfl) rfl rfl ?_
  simp -dsimp -implicitDefEqProofs (disch := first | with_reducible assumption | omega) [go_sem]
  refine ⟨.int .u8 2, fun W => by kernel_rfl, ?_⟩
  simp -dsimp -implicitDefEqProofs (disch := first | with_reducible assumption | omega) [go_sem]
  exact fin_here hk
theorem blen_1 (hk : K (.int .i64 1) L h) : Spec Tryz.prog 252 [.int .u64 1] L h K := by
  refine x_enter Tryz.func252 rfl (rs := [_]) rfl rfl mixed (by kernel_rfl) rfl rfl ?_
  simp -dsimp -implicitDefEqProofs (disch := first | with_reducible assumption | omega) [go_sem]
  refine len64_1 ?_
  simp -dsimp -implicitDefEqProofs (disch := first | with_reducible assumption | omega) [go_sem]
  exact fin_here hk
end Go.X
/- Contracts of slices.ContainsFunc over a tray's items: none, one. Conditions: the items are the call's own. -/
set_option linter.unusedVariables false
set_option linter.unusedSimpArgs false
set_option maxRecDepth 20000
namespace Go.X
open Go.RowKit Go.Proofs Go.Bl
variable {L : Own} {h : PH} {K : PK}
theorem index0 {fv : Value} (hk : K (.int .i64 (-1)) L h) : Spec Tryz.prog 249 [.slice none 0 0, fv] L h K := by
  refine x_enter Tryz.func249 rfl (rs := [_]) rfl rfl mixed (by kernel_rfl) rfl rfl ?_
  simp -dsimp -implicitDefEqProofs (disch := first | with_reducible assumption | omega) [go_sem]
  refine xloop' (0 : Nat) (fun k => k = 0) (fun k => [(8, .int .i64 0), (7, .int .i64 0)]) (fun k => 0) ?_ ?_ ?_
  · rfl
  · simp [Ent, List.lookup, xEnv]
  intro k hk0
  simp -dsimp -implicitDefEqProofs (disch := first | with_reducible assumption | omega) [go_sem]
  exact fin_here hk
theorem contains0 {fv : Value} (hk : K (.bool false) L h) : Spec Tryz.prog 144 [.slice none 0 0, fv] L h K := by
  refine x_enter Tryz.func144 rfl (rs := [_]) rfl rfl mixed (by kernel_rfl) rfl rfl ?_
  simp -dsimp -implicitDefEqProofs (disch := first | with_reducible assumption | omega) [go_sem]
  refine index0 ?_
  simp -dsimp -implicitDefEqProofs (disch := first | with_reducible assumption | omega) [go_sem]
  exact fin_here hk
abbrev itB (b cap : Nat) (cs : List Value) : Blk := ⟨b, 252, cs, cap⟩
theorem putc_12 {b4 : Nat} (hk : K (.bool false) (⟨b4, 85, deedC dT2 (.slice none 0 0), 34⟩ :: L) h) :
    Spec Tryz.prog 145 [itemV 1 1 dT1 (.slice none 0 0), .pointer (some ⟨b4, 0, none⟩)] (⟨b4, 85, deedC dT2 (.slice none 0 0), 34⟩ :: L) h K := by
  refine x_enterA Tryz.func145 rfl (rs := [_]) rfl rfl mixed (by kernel_rfl) rfl rfl fun ap nd => ?_
  obtain ⟨ap1, _⟩ := ap
  clear nd
  simp -dsimp -implicitDefEqProofs (disch := first | with_reducible assumption | omega) [go_sem, itemC, deedC]
  refine xnew fun b2 n_b2 h_b2 => ?_
  try simp only [Apart] at n_b2
  simp -dsimp -implicitDefEqProofs (disch := first | with_reducible assumption | omega) [go_sem, itemC, deedC]
  refine same12 ?_
  simp -dsimp -implicitDefEqProofs (disch := first | with_reducible assumption | omega) [go_sem]
  exact fin_tail (fin_here hk)
set_option maxHeartbeats 1600000 in
theorem index1 {b4 bt b cap c : Nat} {tc : List Value} (hk : K (.int .i64 (-1)) (⟨b4, 85, deedC dT2 (.slice none 0 0), 34⟩ :: ⟨bt, 111, tc, 3⟩ :: itB b cap (itemC 1 1 dT1 (.slice none 0 0)) :: L) h) :
    Spec Tryz.prog 249 [.slice (some ⟨b, 0, none⟩) 1 c, .func (.func 145) #[] #[.pointer (some ⟨b4, 0, none⟩)]] (⟨b4, 85, deedC dT2 (.slice none 0 0), 34⟩ :: ⟨bt, 111, tc, 3⟩ :: itB b cap (itemC 1 1 dT1 (.slice none 0 0)) :: L) h K := by
  refine x_enterA Tryz.func249 rfl (rs := [_]) rfl rfl mixed (by kernel_rfl) rfl rfl fun ap nd => ?_
  obtain ⟨ap4, apt, apb, _⟩ := ap
  simp only [Nd, Apart] at nd
  obtain ⟨⟨n1, n2, _⟩, ⟨n3, _⟩, _⟩ := nd
  simp -dsimp -implicitDefEqProofs (disch := first | with_reducible assumption | omega) [go_sem]
  refine xloop' (0 : Nat) (fun k => k ≤ 1) (fun k => [(8, .int .i64 k), (7, .int .i64 1), (0, .slice (some ⟨b, 0, none⟩) 1 c), (1, .func (.func 145) #[] #[.pointer (some ⟨b4, 0, none⟩)])]) (fun k => 1 - k) ?_ ?_ ?_
  · exact Nat.zero_le _
  · simp [Ent, List.lookup, xEnv]
  intro k hk0
  by_cases c1 : k < 1
  · have hk1 : k = 0 := by omega
    subst hk1
    simp -dsimp -implicitDefEqProofs (disch := first | with_reducible assumption | omega) [go_sem, itemC, deedC]
    refine putc_12 ?_
    simp -dsimp -implicitDefEqProofs (disch := first | with_reducible assumption | omega) [go_sem]
    exact ⟨1, by omega, by omega, by simp [Ent, List.lookup], Drop.refl _ _⟩
  · have hk1 : k = 1 := by omega
    subst hk1
    simp -dsimp -implicitDefEqProofs (disch := first | with_reducible assumption | omega) [go_sem]
    exact fin_here hk
theorem contains1 {b4 bt b cap c : Nat} {tc : List Value} (hk : K (.bool false) (⟨b4, 85, deedC dT2 (.slice none 0 0), 34⟩ :: ⟨bt, 111, tc, 3⟩ :: itB b cap (itemC 1 1 dT1 (.slice none 0 0)) :: L) h) :
    Spec Tryz.prog 144 [.slice (some ⟨b, 0, none⟩) 1 c, .func (.func 145) #[] #[.pointer (some ⟨b4, 0, none⟩)]] (⟨b4, 85, deedC dT2 (.slice none 0 0), 34⟩ :: ⟨bt, 111, tc, 3⟩ :: itB b cap (itemC 1 1 dT1 (.slice none 0 0)) :: L) h K := by
  refine x_enter Tryz.func144 rfl (rs := [_]) rfl rfl mixed (by kernel_rfl) rfl rfl ?_
  simp -dsimp -implicitDefEqProofs (disch := first | with_reducible assumption | omega) [go_sem]
  refine index1 ?_
  simp -dsimp -implicitDefEqProofs (disch := first | with_reducible assumption | omega) [go_sem]
  exact fin_here hk
end Go.X
/- Contracts of slices.SortFunc over one item, and over two items of a tray. Conditions: the items are the call's own. -/
set_option linter.unusedVariables false
set_option linter.unusedSimpArgs false
set_option maxRecDepth 20000
namespace Go.X
open Go.RowKit Go.Proofs Go.Bl
variable {L : Own} {h : PH} {K : PK}
theorem ins1 {a : Option Addr} {c : Nat} {fv : Value} (hk : K (.tuple #[]) L h) : Spec Tryz.prog 313 [.slice a 1 c, .int .i64 0, .int .i64 1, fv] L h K := by
  refine x_enter Tryz.func313 rfl (rs := []) rfl rfl mixed (by kernel_rfl) rfl rfl ?_
  simp -dsimp -implicitDefEqProofs (disch := first | with_reducible assumption | omega) [go_sem]
  refine xloop' (0 : Nat) (fun k => k = 0) (fun k => [(8, .int .i64 1), (2, .int .i64 1)]) (fun k => 0) ?_ ?_ ?_
  · rfl
  · simp [Ent, List.lookup, xEnv]
  intro k hk0
  simp -dsimp -implicitDefEqProofs (disch := first | with_reducible assumption | omega) [go_sem]
  exact fin_here hk
theorem pdq1 {a : Option Addr} {c : Nat} {n : Int} {fv : Value} (hk : K (.tuple #[]) L h) : Spec Tryz.prog 251 [.slice a 1 c, .int .i64 0, .int .i64 1, .int .i64 n, fv] L h K := by
  refine x_enter Tryz.func251 rfl (rs := []) rfl rfl mixed (by kernel_rfl) rfl rfl ?_
  simp -dsimp -implicitDefEqProofs (disch := first | with_reducible assumption | omega) [go_sem]
  refine xloop' (0 : Nat) (fun k => k = 0) (fun k => [(0, .slice a 1 c), (1, .int .i64 0), (2, .int .i64 1), (4, fv)]) (fun k => 0) ?_ ?_ ?_
  · rfl
  · simp [Ent, List.lookup, xEnv]
  intro k hk0
  simp -dsimp -implicitDefEqProofs (disch := first | with_reducible assumption | omega) [go_sem]
  refine ins1 ?_
  simp -dsimp -implicitDefEqProofs (disch := first | with_reducible assumption | omega) [go_sem]
  exact fin_here hk
theorem sort1 {a : Option Addr} {c : Nat} {fv : Value} (hk : K (.tuple #[]) L h) : Spec Tryz.prog 149 [.slice a 1 c, fv] L h K := by
  refine x_enter Tryz.func149 rfl (rs := []) rfl rfl mixed (by kernel_rfl) rfl rfl ?_
  simp -dsimp -implicitDefEqProofs (disch := first | with_reducible assumption | omega) [go_sem]
  refine blen_1 ?_
  simp -dsimp -implicitDefEqProofs (disch := first | with_reducible assumption | omega) [go_sem]
  refine pdq1 ?_
  simp -dsimp -implicitDefEqProofs (disch := first | with_reducible assumption | omega) [go_sem]
  exact fin_here hk
abbrev two1 : List Value := itemC 1 1 dT1 (.slice none 0 0) ++ itemC 2 5 dT2 (.slice none 0 0)
abbrev two2 : List Value := itemC 2 5 dT2 (.slice none 0 0) ++ itemC 1 1 dT1 (.slice none 0 0)
set_option maxHeartbeats 3200000 in
theorem ins2 {b4 t4 p4 bt tt pt b cap c : Nat} {c4 tc : List Value} (hk : K (.tuple #[]) (⟨b4, t4, c4, p4⟩ :: ⟨bt, tt, tc, pt⟩ :: itB b cap two2 :: L) h) :
    Spec Tryz.prog 313 [.slice (some ⟨b, 0, none⟩) 2 c, .int .i64 0, .int .i64 2, .func (.func 150) #[] #[]] (⟨b4, t4, c4, p4⟩ :: ⟨bt, tt, tc, pt⟩ :: itB b cap two1 :: L) h K := by
  refine x_enterA Tryz.func313 rfl (rs := []) rfl rfl mixed (by kernel_rfl) rfl rfl fun ap nd => ?_
  obtain ⟨ap4, apt, apb, _⟩ := ap
  simp only [Nd, Apart] at nd
  obtain ⟨⟨n1, n2, _⟩, ⟨n3, _⟩, _⟩ := nd
  simp -dsimp -implicitDefEqProofs (disch := first | with_reducible assumption | omega) [go_sem]
  refine xloop (γ := Nat) 0 (fun k => k ≤ 1)
    (fun k => [(8, .int .i64 (1 + k)), (0, .slice (some ⟨b, 0, none⟩) 2 c), (1, .int .i64 0), (2, .int .i64 2), (3, .func (.func 150) #[] #[])])
    (fun k => ⟨b4, t4, c4, p4⟩ :: ⟨bt, tt, tc, pt⟩ :: itB b cap (if k = 0 then two1 else two2) :: L) (fun _ => h) (fun k => 1 - k) ?_ ?_ ?_ ?_
  · exact Nat.zero_le _
  · simp [Ent, List.lookup, xEnv]
  · exact Drop.refl _ _
  intro k hk0
  by_cases c1 : k < 1
  · have hk1 : k = 0 := by omega
    subst hk1
    simp only [if_true]
    simp -dsimp -implicitDefEqProofs (disch := first | with_reducible assumption | omega) [go_sem]
    refine xloop (γ := Nat) 0 (fun k => k ≤ 1)
      (fun k => [(9, .int .i64 (1 - k)), (8, .int .i64 1), (0, .slice (some ⟨b, 0, none⟩) 2 c), (1, .int .i64 0), (2, .int .i64 2), (3, .func (.func 150) #[] #[])])
      (fun k => ⟨b4, t4, c4, p4⟩ :: ⟨bt, tt, tc, pt⟩ :: itB b cap (if k = 0 then two1 else two2) :: L) (fun _ => h) (fun k => 1 - k) ?_ ?_ ?_ ?_
    · exact Nat.zero_le _
    · simp [Ent, List.lookup, xEnv]
    · exact Drop.refl _ _
    intro j hj0
    by_cases c2 : j < 1
    · have hj1 : j = 0 := by omega
      subst hj1
      simp only [if_true]
      simp -dsimp -implicitDefEqProofs (disch := first | with_reducible assumption | omega) [go_sem]
      refine xdraw (by kernel_rfl) rfl ?_
      simp -dsimp -implicitDefEqProofs (disch := first | with_reducible assumption | omega) [go_sem, two1, itemC, deedC, List.cons_append, List.nil_append]
      refine xdcall _ (behind_lt (i1 := 2) (t1 := 5) (i2 := 1) (t2 := 1) (d1 := dT2) (d2 := dT1) (v1 := .slice none 0 0) (v2 := .slice none 0 0) (by decide) ⟨rfl, rfl, rfl⟩) ?_
      simp -dsimp -implicitDefEqProofs (disch := first | with_reducible assumption | omega) [go_sem]
      refine xanyl (.tk 0 (.tk 1 (.tk 2 (.tk 3 (.tk 4 (.tk 5 (.tk 6 (.tk 7 (.tk 8 (.tk 10 (.tk 11 (.tk 12 (.tkl 9 (.tkl 13 (.tk 14 (.or false 15 (.tk 16 (.or false 17 (.fin) (.nil))) (.nil))))))))))))))))) (by kernel_rfl) (by kernel_rfl) [itB b cap two1] (Drop.mem (by simp)) ?_
      simp -dsimp -implicitDefEqProofs (disch := first | with_reducible assumption | omega) [go_sem, two1, itemC, deedC, List.cons_append, List.nil_append]
      refine ⟨1, by omega, by omega, by simp [Ent, List.lookup], ?_⟩
      rw [if_neg (by decide)]
      exact Drop.refl _ _
    · have hj1 : j = 1 := by omega
      subst hj1
      simp -dsimp -implicitDefEqProofs (disch := first | with_reducible assumption | omega) [go_sem]
      refine xdraw (by kernel_rfl) rfl ?_
      simp -dsimp -implicitDefEqProofs (disch := first | with_reducible assumption | omega) [go_sem]
      refine ⟨1, by omega, by omega, by simp [Ent, List.lookup], ?_⟩
      rw [if_neg (by decide)]
      exact Drop.refl _ _
  · have hk1 : k = 1 := by omega
    subst hk1
    simp -dsimp -implicitDefEqProofs (disch := first | with_reducible assumption | omega) [go_sem]
    exact fin_here hk
theorem blen_2 (hk : K (.int .i64 2) L h) : Spec Tryz.prog 252 [.int .u64 2] L h K := by
  refine x_enter Tryz.func252 rfl (rs := [_]) rfl rfl mixed (by kernel_rfl) rfl rfl ?_
  simp -dsimp -implicitDefEqProofs (disch := first | with_reducible assumption | omega) [go_sem]
  refine len64_2 ?_
  simp -dsimp -implicitDefEqProofs (disch := first | with_reducible assumption | omega) [go_sem]
  exact fin_here hk
theorem pdq2 {b4 t4 p4 bt tt pt b cap c : Nat} {c4 tc : List Value} {n : Int} (hk : K (.tuple #[]) (⟨b4, t4, c4, p4⟩ :: ⟨bt, tt, tc, pt⟩ :: itB b cap two2 :: L) h) :
    Spec Tryz.prog 251 [.slice (some ⟨b, 0, none⟩) 2 c, .int .i64 0, .int .i64 2, .int .i64 n, .func (.func 150) #[] #[]] (⟨b4, t4, c4, p4⟩ :: ⟨bt, tt, tc, pt⟩ :: itB b cap two1 :: L) h K := by
  refine x_enter Tryz.func251 rfl (rs := []) rfl rfl mixed (by kernel_rfl) rfl rfl ?_
  simp -dsimp -implicitDefEqProofs (disch := first | with_reducible assumption | omega) [go_sem]
  refine xloop' (0 : Nat) (fun k => k = 0) (fun k => [(0, .slice (some ⟨b, 0, none⟩) 2 c), (1, .int .i64 0), (2, .int .i64 2), (4, .func (.func 150) #[] #[])]) (fun k => 0) ?_ ?_ ?_
  · rfl
  · simp [Ent, List.lookup, xEnv]
  intro k hk0
  simp -dsimp -implicitDefEqProofs (disch := first | with_reducible assumption | omega) [go_sem]
  refine ins2 ?_
  simp -dsimp -implicitDefEqProofs (disch := first | with_reducible assumption | omega) [go_sem]
  exact fin_here hk
theorem sort2 {b4 t4 p4 bt tt pt b cap c : Nat} {c4 tc : List Value} (hk : K (.tuple #[]) (⟨b4, t4, c4, p4⟩ :: ⟨bt, tt, tc, pt⟩ :: itB b cap two2 :: L) h) :
    Spec Tryz.prog 149 [.slice (some ⟨b, 0, none⟩) 2 c, .func (.func 150) #[] #[]] (⟨b4, t4, c4, p4⟩ :: ⟨bt, tt, tc, pt⟩ :: itB b cap two1 :: L) h K := by
  refine x_enter Tryz.func149 rfl (rs := []) rfl rfl mixed (by kernel_rfl) rfl rfl ?_
  simp -dsimp -implicitDefEqProofs (disch := first | with_reducible assumption | omega) [go_sem]
  refine blen_2 ?_
  simp -dsimp -implicitDefEqProofs (disch := first | with_reducible assumption | omega) [go_sem]
  refine pdq2 ?_
  simp -dsimp -implicitDefEqProofs (disch := first | with_reducible assumption | omega) [go_sem]
  exact fin_here hk
end Go.X
/- Contracts of tray.Put: the first deed, and the second one, of the chapter's example. Conditions: the tray is the call's own. -/
set_option linter.unusedVariables false
set_option linter.unusedSimpArgs false
set_option maxRecDepth 20000
namespace Go.X
open Go.RowKit Go.Proofs Go.Bl
variable {L : Own} {h : PH} {K : PK}
theorem dT1_is : IsDeed h (.slice none 0 0) dT1 := ⟨nil_ints h .u8, ⟨fun z hz => by simp [dT1] at hz; omega, by simp [dT1], zeroP_ok'⟩⟩
theorem dT2_is : IsDeed h (.slice none 0 0) dT2 := ⟨nil_ints h .u8, ⟨fun z hz => by simp [dT2] at hz; omega, by simp [dT2], zeroP_ok'⟩⟩
theorem dT1_r : rightD dT1 = true := by kernel_rfl
theorem dT2_r : rightD dT2 = true := by kernel_rfl
theorem is1_any {b : Nat} {n m : Int} {v : Value} (hn : 0 < n) (hk : K (.bool true) (trayB b n m v :: L) h) : Spec Tryz.prog 143 [.pointer (some ⟨b, 0, none⟩)] (trayB b n m v :: L) h K := by
  refine x_enterA Tryz.func143 rfl (rs := [_]) rfl rfl mixed (by kernel_rfl) rfl rfl fun ap nd => ?_
  obtain ⟨ap1, _⟩ := ap
  clear nd
  simp -dsimp -implicitDefEqProofs (disch := first | with_reducible assumption | omega) [go_sem]
  exact fin_here hk
set_option maxHeartbeats 3200000 in
theorem put1 {bt : Nat} (hk : ∀ h' b cap, PH.le h h' → okO (some (b, cap)) 1 → K (.tuple #[.int .i64 1, .int .i64 0]) (trayB bt 2 1 (.slice (some ⟨b, 0, none⟩) 1 cap) :: itB b (cap * 36) (itemC 1 1 dT1 (.slice none 0 0)) :: L) h') :
    Spec Tryz.prog 42 [.pointer (some ⟨bt, 0, none⟩), deedV dT1 (.slice none 0 0), .int .u64 1] (trayB bt 2 0 (.slice none 0 0) :: L) h K := by
  refine x_enterA Tryz.func42 rfl (rs := [_, _]) rfl rfl mixed (by kernel_rfl) rfl rfl fun ap nd => ?_
  obtain ⟨ap1, _⟩ := ap
  clear nd
  simp -dsimp -implicitDefEqProofs (disch := first | with_reducible assumption | omega) [go_sem]
  refine xnew fun b4 n_b4 h_b4 => ?_
  try simp only [Apart] at n_b4
  simp -dsimp -implicitDefEqProofs (disch := first | with_reducible assumption | omega) [go_sem]
  refine call_p1 ?_
  refine is1_any (by decide) ?_
  simp -dsimp -implicitDefEqProofs (disch := first | with_reducible assumption | omega) [go_sem]
  refine Spec.ap (dright_any _ dT1_is fun h1 le1 ap => ?_)
  simp only [Ap] at ap
  obtain ⟨at1, a41, _⟩ := ap
  rw [dT1_r]
  simp -dsimp -implicitDefEqProofs (disch := first | with_reducible assumption | omega) [go_sem]
  refine contains0 ?_
  simp -dsimp -implicitDefEqProofs (disch := first | with_reducible assumption | omega) [go_sem]
  refine xdraw (by kernel_rfl) rfl ?_
  simp -dsimp -implicitDefEqProofs (disch := first | with_reducible assumption | omega) [go_sem]
  have sb : ∀ (x y : Blk) (M : Own), Drop (x :: y :: M) h1 [x, y] h1 := fun x y M => Drop.sub (.cons_cons _ (.cons_cons _ (List.nil_sublist _)))
  refine xanyl (.tk 0 (.tk 1 (.tk 2 (.tk 3 (.tk 5 (.tk 6 (.tk 7 (.tk 9 (.tkl 4 (.tkl 8 (.tkl 10 (.tk 11 (.or true 12 (.or true 13 (.or true 14 (.tk 15 (.tk 16 (.or false 17 (.fin) (.nil)))) (.nil)) (.nil)) (.nil)))))))))))))) (by kernel_rfl) (by kernel_rfl) [trayB bt 2 1 (.slice none 0 0), ⟨b4, 85, deedC dT1 (.slice none 0 0), 34⟩] (sb _ _ _) ?_
  simp -dsimp -implicitDefEqProofs (disch := first | with_reducible assumption | omega) [go_sem, deedC]
  refine town_nil (i := 1) (t := 1) (d := dT1) ?_
  refine xkp (sb _ _ _) ?_
  simp -dsimp -implicitDefEqProofs (disch := first | with_reducible assumption | omega) [go_sem, itemC, deedC]
  refine xnew fun b5 n_b5 h_b5 => ?_
  try simp only [Apart] at n_b5
  refine xkp ((Drop.tail _ _ _).trans (sb _ _ _)) ?_
  simp -dsimp -implicitDefEqProofs (disch := first | with_reducible assumption | omega) [go_sem]
  refine xappend (t := 109) (e := 252) (sz := 36) (bytes := 304) (by kernel_rfl) tI_252 rfl rfl rfl rfl (by decide) [_, _, _] L none 0 [] rfl rfl (Src.own List.mem_cons_self) (m := 1) (news := itemC 1 1 dT1 (.slice none 0 0)) rfl (by decide) (by decide) (by decide) ?_
  intro o j1 j2 j3
  simp only [List.cons_append, List.nil_append, Nat.zero_add] at j1 j2 ⊢
  refine xkp ((Drop.tail _ _ _).trans (sb _ _ _)) ?_
  cases o with
  | none => cases j1
  | some p =>
  obtain ⟨b, cap⟩ := p
  have nb := j2.1
  simp only [Apart] at nb
  have hb := j2.2
  simp only [ovs, oent] at j1 ⊢
  simp -dsimp -implicitDefEqProofs (disch := first | with_reducible assumption | omega) [go_sem]
  first | refine xkp (Drop.refl _ _) ?_ | skip
  first | simp -dsimp -implicitDefEqProofs (disch := first | with_reducible assumption | omega) [go_sem] | skip
  refine sort1 ?_
  simp -dsimp -implicitDefEqProofs (disch := first | with_reducible assumption | omega) [go_sem]
  exact ⟨_, _, Drop.sub (.cons _ (.cons_cons _ (.cons _ (List.Sublist.refl _)))), hk h1 b cap le1 j1⟩
set_option maxHeartbeats 6400000 in
theorem put2 {bt b cap : Nat} (hc : okO (some (b, cap)) 1) (hk : ∀ h' b' cap', PH.le h h' → okO (some (b', cap')) 2 → K (.tuple #[.int .i64 2, .int .i64 0]) (trayB bt 2 2 (.slice (some ⟨b', 0, none⟩) 2 cap') :: itB b' (cap' * 36) two2 :: L) h') :
    Spec Tryz.prog 42 [.pointer (some ⟨bt, 0, none⟩), deedV dT2 (.slice none 0 0), .int .u64 5] (trayB bt 2 1 (.slice (some ⟨b, 0, none⟩) 1 cap) :: itB b (cap * 36) (itemC 1 1 dT1 (.slice none 0 0)) :: L) h K := by
  refine x_enterA Tryz.func42 rfl (rs := [_, _]) rfl rfl mixed (by kernel_rfl) rfl rfl fun ap nd => ?_
  obtain ⟨ap1, apb, _⟩ := ap
  simp only [Nd, Apart] at nd
  obtain ⟨⟨n1, _⟩, _⟩ := nd
  simp -dsimp -implicitDefEqProofs (disch := first | with_reducible assumption | omega) [go_sem]
  refine xnew fun b4 n_b4 h_b4 => ?_
  try simp only [Apart] at n_b4
  simp -dsimp -implicitDefEqProofs (disch := first | with_reducible assumption | omega) [go_sem]
  refine call_p1 ?_
  refine is1_any (by decide) ?_
  simp -dsimp -implicitDefEqProofs (disch := first | with_reducible assumption | omega) [go_sem]
  refine Spec.ap (dright_any _ dT2_is fun h1 le1 ap => ?_)
  simp only [Ap] at ap
  obtain ⟨at1, a41, ab1, _⟩ := ap
  rw [dT2_r]
  simp -dsimp -implicitDefEqProofs (disch := first | with_reducible assumption | omega) [go_sem]
  refine call_p1 ?_
  refine contains1 ?_
  simp -dsimp -implicitDefEqProofs (disch := first | with_reducible assumption | omega) [go_sem]
  refine xdraw (by kernel_rfl) rfl ?_
  simp -dsimp -implicitDefEqProofs (disch := first | with_reducible assumption | omega) [go_sem]
  have sb : ∀ (x y : Blk) (M : Own), Drop (x :: y :: M) h1 [x, y] h1 := fun x y M => Drop.sub (.cons_cons _ (.cons_cons _ (List.nil_sublist _)))
  refine xanyl (.tk 0 (.tk 1 (.tk 2 (.tk 3 (.tk 5 (.tk 6 (.tk 7 (.tk 9 (.tkl 4 (.tkl 8 (.tkl 10 (.tk 11 (.or true 12 (.or true 13 (.or true 14 (.tk 15 (.tk 16 (.or false 17 (.fin) (.nil)))) (.nil)) (.nil)) (.nil)))))))))))))) (by kernel_rfl) (by kernel_rfl) [⟨b4, 85, deedC dT2 (.slice none 0 0), 34⟩, trayB bt 2 2 (.slice (some ⟨b, 0, none⟩) 1 cap)] (sb _ _ _) ?_
  simp -dsimp -implicitDefEqProofs (disch := first | with_reducible assumption | omega) [go_sem, deedC]
  refine town_nil (i := 2) (t := 5) (d := dT2) ?_
  refine xkp (sb _ _ _) ?_
  simp -dsimp -implicitDefEqProofs (disch := first | with_reducible assumption | omega) [go_sem, itemC, deedC]
  refine xnew fun b5 n_b5 h_b5 => ?_
  try simp only [Apart] at n_b5
  refine xkp ((Drop.tail _ _ _).trans (sb _ _ _)) ?_
  simp -dsimp -implicitDefEqProofs (disch := first | with_reducible assumption | omega) [go_sem]
  refine xappend (t := 109) (e := 252) (sz := 36) (bytes := 304) (by kernel_rfl) tI_252 rfl rfl rfl rfl (by decide) [_, _, _] L (some (b, cap)) 1 (itemC 1 1 dT1 (.slice none 0 0)) hc rfl (Src.own List.mem_cons_self) (m := 1) (news := itemC 2 5 dT2 (.slice none 0 0)) rfl (by decide) (by decide) (by decide) ?_
  intro o j1 j2 j3
  simp only [List.cons_append, List.nil_append] at j2 ⊢
  refine xkp ((Drop.tail _ _ _).trans (sb _ _ _)) ?_
  cases o with
  | none => cases j1
  | some p =>
  obtain ⟨b', cap'⟩ := p
  have nb := j2.1
  simp only [Apart] at nb
  have hb := j2.2
  simp only [ovs, oent]
  simp -dsimp -implicitDefEqProofs (disch := first | with_reducible assumption | omega) [go_sem]
  first | refine xkp (Drop.refl _ _) ?_ | skip
  first | simp -dsimp -implicitDefEqProofs (disch := first | with_reducible assumption | omega) [go_sem] | skip
  refine call_drop ?_
  refine sort2 ?_
  simp -dsimp -implicitDefEqProofs (disch := first | with_reducible assumption | omega) [go_sem]
  exact ⟨_, _, Drop.sub (.cons _ (List.Sublist.refl _)), hk h1 b' cap' le1 j1⟩
end Go.X
/- The contract of law 33's awake: the chapter's example of a tray. Conditions: none. -/
set_option linter.unusedVariables false
set_option linter.unusedSimpArgs false
set_option maxRecDepth 20000
namespace Go.X
open Go.RowKit Go.Proofs Go.Bl
variable {L : Own} {h : PH} {K : PK}
/-- the first k of the two items -/
def twoK (k : Nat) : List Value := if k = 0 then [] else if k = 1 then itemC 2 5 dT2 (.slice none 0 0) else two2
set_option maxHeartbeats 6400000 in
theorem list2 {bt b cp cap : Nat} (hk : ∀ bo co, okO (some (bo, co)) 2 → Apart bo (trayB bt 2 2 (.slice (some ⟨b, 0, none⟩) 2 cap) :: itB b cp two2 :: L) → h bo = noC → K (.slice (some ⟨bo, 0, none⟩) 2 co) (trayB bt 2 2 (.slice (some ⟨b, 0, none⟩) 2 cap) :: itB b cp two2 :: itB bo (co * 36) two2 :: L) h) :
    Spec Tryz.prog 45 [.pointer (some ⟨bt, 0, none⟩)] (trayB bt 2 2 (.slice (some ⟨b, 0, none⟩) 2 cap) :: itB b cp two2 :: L) h K := by
  refine x_enterA Tryz.func45 rfl (rs := [_]) rfl rfl mixed (by kernel_rfl) rfl rfl fun ap nd => ?_
  obtain ⟨ap1, apb, _⟩ := ap
  simp only [Nd, Apart] at nd
  obtain ⟨⟨n1, _⟩, _⟩ := nd
  simp -dsimp -implicitDefEqProofs (disch := first | with_reducible assumption | omega) [go_sem]
  refine is1_any (by decide) ?_
  simp -dsimp -implicitDefEqProofs (disch := first | with_reducible assumption | omega) [go_sem]
  refine xloop (γ := Nat × Option (Nat × Nat)) (0, none)
    (fun x => x.1 ≤ 2 ∧ okO x.2 x.1 ∧ apO x.2 (trayB bt 2 2 (.slice (some ⟨b, 0, none⟩) 2 cap) :: itB b cp two2 :: L) h)
    (fun x => [(13, .int .i64 x.1), (12, .int .i64 2), (11, .slice (some ⟨b, 0, none⟩) 2 cap), (3, ovs x.2 x.1)])
    (fun x => trayB bt 2 2 (.slice (some ⟨b, 0, none⟩) 2 cap) :: itB b cp two2 :: oent 252 36 x.2 (twoK x.1) L) (fun _ => h) (fun x => 2 - x.1) ?_ ?_ ?_ ?_
  · exact ⟨Nat.zero_le _, rfl, trivial⟩
  · simp [Ent, List.lookup, xEnv, ovs]
  · exact Drop.refl _ _
  rintro ⟨k, o⟩ ⟨i1, i2, i3⟩
  simp only at i1 i2 i3 ⊢
  by_cases c1 : k < 2
  · rcases (show k = 0 ∨ k = 1 by omega) with rfl | rfl
    · simp -dsimp -implicitDefEqProofs (disch := first | with_reducible assumption | omega) [go_sem, two2, itemC, deedC, List.cons_append, List.nil_append]
      refine xnew fun b5 n_b5 h_b5 => ?_
      try simp only [Apart] at n_b5
      simp -dsimp -implicitDefEqProofs (disch := first | with_reducible assumption | omega) [go_sem, two2, itemC, deedC, List.cons_append, List.nil_append]
      refine town_nil (i := 2) (t := 5) (d := dT2) ?_
      simp -dsimp -implicitDefEqProofs (disch := first | with_reducible assumption | omega) [go_sem, itemC, deedC]
      refine xnew fun b6 n_b6 h_b6 => ?_
      try simp only [Apart] at n_b6
      simp -dsimp -implicitDefEqProofs (disch := first | with_reducible assumption | omega) [go_sem]
      refine xappend (t := 109) (e := 252) (sz := 36) (bytes := 304) (by kernel_rfl) tI_252 rfl rfl rfl rfl (by decide) [_, _, _, _] L o 0 (twoK 0) i2 rfl (Src.own List.mem_cons_self) (m := 1) (news := itemC 2 5 dT2 (.slice none 0 0)) rfl (by decide) (by decide) (by decide) ?_
      intro o' j1 j2 j3
      simp only [List.cons_append, List.nil_append] at j2 ⊢
      simp -dsimp -implicitDefEqProofs (disch := first | with_reducible assumption | omega) [go_sem]
      exact ⟨1, o', ⟨by omega, j1, apO_sub (.cons _ (.cons _ (List.Sublist.refl _))) j2⟩, by omega, by simp [Ent, List.lookup], (Drop.tail _ _ _).trans (Drop.tail _ _ _)⟩
    · simp -dsimp -implicitDefEqProofs (disch := first | with_reducible assumption | omega) [go_sem, two2, itemC, deedC, List.cons_append, List.nil_append]
      refine xnew fun b5 n_b5 h_b5 => ?_
      try simp only [Apart] at n_b5
      simp -dsimp -implicitDefEqProofs (disch := first | with_reducible assumption | omega) [go_sem, two2, itemC, deedC, List.cons_append, List.nil_append]
      refine town_nil (i := 1) (t := 1) (d := dT1) ?_
      simp -dsimp -implicitDefEqProofs (disch := first | with_reducible assumption | omega) [go_sem, itemC, deedC]
      refine xnew fun b6 n_b6 h_b6 => ?_
      try simp only [Apart] at n_b6
      simp -dsimp -implicitDefEqProofs (disch := first | with_reducible assumption | omega) [go_sem]
      refine xappend (t := 109) (e := 252) (sz := 36) (bytes := 304) (by kernel_rfl) tI_252 rfl rfl rfl rfl (by decide) [_, _, _, _] L o 1 (twoK 1) i2 rfl (Src.own List.mem_cons_self) (m := 1) (news := itemC 1 1 dT1 (.slice none 0 0)) rfl (by decide) (by decide) (by decide) ?_
      intro o' j1 j2 j3
      simp only [List.cons_append, List.nil_append] at j2 ⊢
      simp -dsimp -implicitDefEqProofs (disch := first | with_reducible assumption | omega) [go_sem]
      exact ⟨2, o', ⟨by omega, j1, apO_sub (.cons _ (.cons _ (List.Sublist.refl _))) j2⟩, by omega, by simp [Ent, List.lookup], (Drop.tail _ _ _).trans (Drop.tail _ _ _)⟩
  · have hk2 : k = 2 := by omega
    subst hk2
    cases o with
    | none => cases i2
    | some p =>
    obtain ⟨bo, co⟩ := p
    simp -dsimp -implicitDefEqProofs (disch := first | with_reducible assumption | omega) [go_sem]
    exact fin_here (hk bo co i2 i3.1 i3.2)
theorem tnew2 (hk : ∀ b, h b = noC → Apart b L → K (.tuple #[.pointer (some ⟨b, 0, none⟩), .int .i64 0]) (trayB b 2 0 (.slice none 0 0) :: L) h) : Spec Tryz.prog 142 [.int .i64 2] L h K := by
  refine x_enter Tryz.func142 rfl (rs := [_, _]) rfl rfl mixed (by kernel_rfl) rfl rfl ?_
  simp -dsimp -implicitDefEqProofs (disch := first | with_reducible assumption | omega) [go_sem]
  refine xnew fun b n_b h_b => ?_
  simp -dsimp -implicitDefEqProofs (disch := first | with_reducible assumption | omega) [go_sem]
  exact fin_here (hk b h_b n_b)
set_option maxHeartbeats 3200000 in
theorem awake33_any (hk : ∀ h', PH.le h h' → K (.bool true) L h') : Spec Tryz.prog 40 [] L h K := by
  refine x_enter Tryz.func40 rfl (rs := [_]) rfl rfl mixed (by kernel_rfl) rfl rfl ?_
  simp -dsimp -implicitDefEqProofs (disch := first | with_reducible assumption | omega) [go_sem]
  refine tnew2 fun bt h_bt n_bt => ?_
  simp -dsimp -implicitDefEqProofs (disch := first | with_reducible assumption | omega) [go_sem]
  refine put1 fun h1 b cap le1 k1 => ?_
  simp -dsimp -implicitDefEqProofs (disch := first | with_reducible assumption | omega) [go_sem]
  refine put2 k1 fun h2 b' cap' le2 k2 => ?_
  simp -dsimp -implicitDefEqProofs (disch := first | with_reducible assumption | omega) [go_sem]
  refine Spec.apn (list2 fun bo co k3 na hb ap nd => ?_)
  obtain ⟨ap1, ap2, ap3, _⟩ := ap
  simp only [Nd, Apart] at nd
  obtain ⟨⟨n1, n2, _⟩, ⟨n3, _⟩, _⟩ := nd
  simp -dsimp -implicitDefEqProofs (disch := first | with_reducible assumption | omega) [go_sem, two2, itemC, deedC, List.cons_append, List.nil_append]
  exact fin_tail (fin_tail (fin_tail (fin_here (hk h2 (le1.trans le2)))))
end Go.X

/- Part of the proof of a statement about the given program: lemmas and contracts. Conditions: as each says. -/
import Derived.Test.YtemlppiklgeogaaGreatQ04
/- Maps of the call's own: how they are asked, how they are written. Conditions: keys are numbers. -/
set_option linter.unusedVariables false
set_option linter.unusedSimpArgs false
namespace Go.X
open Go.RowKit Go.Bl
variable {P : Program}
theorem xCells_elem {L : Own} {h : PH} {a : Option Addr} {i : Nat} : ∀ (n j : Nat) (cs : List Value) (K : List Value → Prop), cs.length = n → (∀ m, m < n → elemCell h a (i + (j + m)) = cs[m]?) → xCells L h (elem a i) j n K = K cs
  | 0, j, cs, K, hl, _ => by
    have : cs = [] := List.eq_nil_of_length_eq_zero hl
    subst this
    rfl
  | n + 1, j, [], K, hl, _ => by simp at hl
  | n + 1, j, c :: cs, K, hl, hc => by
    have h0 := hc 0 (by omega)
    simp only [Nat.add_zero, List.getElem?_cons_zero] at h0
    rw [xCells_succ, xCell_elem h0]
    rw [xCells_elem n (j + 1) cs (fun vs => K (c :: vs)) (by simpa using hl) fun m hm => by
      have := hc (m + 1) (by omega)
      rw [show i + (j + 1 + m) = i + (j + (m + 1)) by omega, this]
      simp]
end Go.X
/-! Maps of the call's own whose keys are structs of numbers. Conditions: as each lemma says. -/
namespace Go.X
open Go.RowKit Go.Bl
variable {P : Program}
/-- what a map's keys are of -/
structure KeyT (P : Program) (kt : TypeId) (ks : List IntKind) : Prop where
  u : P.underlying kt = some (.struct (P.fieldsOf kt))
  s : P.stoodInHeld kt = false
  ok : okF P (P.fieldsOf kt).toList 0 ks = true
end Go.X
/- A struct of numbers and bools, however nested, is the same as itself; lists of records in known cells. Conditions: as each lemma says. -/
set_option linter.unusedVariables false
set_option linter.unusedSimpArgs false
namespace Go.X
open Go.RowKit Go.Bl
section
variable {P : Program}
end
abbrev parV (p : ParD) : Value := .agg #[.int .u64 p.inc, .int .u64 p.maxEff, .int .u64 p.floor, .int .u64 p.cap, .int .u64 p.up, .int .u64 p.down, .int .u64 p.bias, .int .u64 p.quot, .int .u64 p.biasEm, .int .u64 p.quotEm, .int .u64 p.recover, .int .u64 p.scoreCap, .int .u64 p.rate, .int .u64 p.bond, .int .i64 p.delay, .int .i64 p.streak, .int .i64 p.boost, .int .i64 p.absent, .int .i64 p.burn, .int .i64 p.churn, .int .i64 p.wait, .int .i64 p.poll, .int .i64 p.enact, .int .i64 p.quorum]
abbrev parC (p : ParD) : List Value := [.int .u64 p.inc, .int .u64 p.maxEff, .int .u64 p.floor, .int .u64 p.cap, .int .u64 p.up, .int .u64 p.down, .int .u64 p.bias, .int .u64 p.quot, .int .u64 p.biasEm, .int .u64 p.quotEm, .int .u64 p.recover, .int .u64 p.scoreCap, .int .u64 p.rate, .int .u64 p.bond, .int .i64 p.delay, .int .i64 p.streak, .int .i64 p.boost, .int .i64 p.absent, .int .i64 p.burn, .int .i64 p.churn, .int .i64 p.wait, .int .i64 p.poll, .int .i64 p.enact, .int .i64 p.quorum]
/-! ### lists of records in known cells -/
theorem flatG_get {α β : Type} {f : α → List β} {k : Nat} (hf : ∀ a, (f a).length = k) : ∀ (l : List α) (i m : Nat), m < k → (l.flatMap f)[i * k + m]? = (l[i]?).bind fun a => (f a)[m]?
  | [], i, m, _ => by simp
  | a :: l, 0, m, hm => by
    rw [List.flatMap_cons, List.getElem?_append_left (by rw [hf]; omega)]
    simp
  | a :: l, i + 1, m, hm => by
    have e : (i + 1) * k + m = k + (i * k + m) := by rw [Nat.add_mul]; omega
    rw [List.flatMap_cons, List.getElem?_append_right (by rw [hf, e]; omega), hf, e, Nat.add_sub_cancel_left, flatG_get hf l i m hm]
    simp
theorem flatG_len {α β : Type} {f : α → List β} {k : Nat} (hf : ∀ a, (f a).length = k) : ∀ (l : List α), (l.flatMap f).length = l.length * k
  | [] => by simp
  | a :: l => by rw [List.flatMap_cons, List.length_append, hf, flatG_len hf l, List.length_cons, Nat.add_mul]; omega
/-- element i, or the one that is handed in -/
def gr {α : Type} (z : α) (l : List α) (i : Nat) : α := l.getD i z
theorem gr_lt {α : Type} {z : α} {l : List α} {i : Nat} (hi : i < l.length) : gr z l i = l[i] := by simp [gr, List.getD, hi]
/-- slice value v reads as these records, each of w cells -/
structure Recs {α : Type} (f : α → List Value) (w : Nat) (h : PH) (v : Value) (l : List α) : Prop where
  len : ∀ a, (f a).length = w
  s : Sl h v l.length w (l.flatMap f)
section
variable {α : Type} {f : α → List Value} {w : Nat} {h : PH} {v : Value} {l : List α}
theorem Recs.up {h' : PH} (le : PH.le h h') (hd : Recs f w h v l) : Recs f w h' v l := ⟨hd.len, hd.s.up le⟩
theorem Recs.nil (hw : ∀ a, (f a).length = w) (h : PH) : Recs f w h (.slice none 0 0) [] := ⟨hw, ⟨by simp, none, 0, rfl, Nat.le_refl _, by decide, by simp, fun _ => rfl, fun j c hj => by simp at hj⟩⟩
theorem Recs.open (hd : Recs f w h v l) : ∃ a cap, v = .slice a l.length cap ∧ l.length ≤ cap ∧ l.length ≤ 9223372036854775807 ∧ (a = none → cap = 0) ∧ Recs f w h (.slice a l.length cap) l := by
  obtain ⟨h1, a, cap, rfl, h3, h4, h4', h5, h6⟩ := hd.s
  exact ⟨a, cap, rfl, h3, h4', h5, hd⟩
theorem Recs.cell {a : Option Addr} {n c : Nat} {z : α} (hd : Recs f w h (.slice a n c) l) {i m : Nat} (hi : i < l.length) (hm : m < w) : elemCell h a (i * w + m) = (f (gr z l i))[m]? := by
  obtain ⟨h1, a', cap, h2, h3, h4, h4', h5, h6⟩ := hd.s
  injection h2 with e1 e2 e3
  subst e1
  have hg := flatG_get hd.len l i m hm
  rw [List.getElem?_eq_getElem hi, Option.bind_some, ← gr_lt (z := z) hi] at hg
  obtain ⟨u, hu⟩ : ∃ u, (f (gr z l i))[m]? = some u := ⟨_, List.getElem?_eq_getElem (by rw [hd.len]; exact hm)⟩
  rw [hu] at hg ⊢
  exact h6 _ _ hg
/-- by a known list of records: its indices and its loads -/
theorem idxR {a : Option Addr} {n c0 : Nat} (z : α) (hw0 : 0 < w) (hd : Recs f w h (.slice a n c0) l) :
    (∀ (m c e by' : Nat) (k : IntKind) (j : Int) (K : Value → Prop) (t : Tok K), 0 ≤ j → j < (l.length : Int) → m = l.length → xIA (.sl e w by') (.slice a m c) (.int k j) K t = K (.pointer (elem a (j.toNat * w)))) ∧
    (∀ (j : Nat) (K : Option Addr → Prop) (t : Tok K), j < l.length → xPtr (.pointer (elem a (j * w))) K t = K (elem a (j * w))) ∧
    (∀ (L : Own) (j : Nat) (zz : List Value) (by' : Nat) (K : Value → Prop) (t : Tok K), j < l.length → xLd ⟨w, true, zz, by'⟩ L h (elem a (j * w)) K t = K (.agg (f (gr z l j)).toArray)) ∧
    (∀ (j o : Nat) (K : Value → Prop) (t : Tok K), j < l.length → xAddO (.pointer (elem a (j * w))) o K t = K (.pointer (elem a (j * w + o)))) ∧
    (∀ (j o : Nat) (K : Option Addr → Prop) (t : Tok K), j < l.length → xPtr (.pointer (elem a (j * w + o))) K t = K (elem a (j * w + o))) := by
  have hne : ∀ j, j < l.length → a ≠ none := fun j hj e => by
    have := hd.cell (z := z) hj (m := 0) hw0
    rw [e, List.getElem?_eq_getElem (by rw [hd.len]; exact hw0)] at this
    simp [elemCell] at this
  refine ⟨fun m c e by' k j K t h0 h1 hm => ?_, fun j K t hj => xPtr_elem (hne j hj) K, fun L j zz by' K t hj => ?_, fun j o K t hj => xAddO_elem (hne j hj) _ _ K, fun j o K t hj => xPtr_elem (hne j hj) K⟩
  · subst hm
    exact xIA_elem (hne j.toNat (by omega)) e w by' _ c k j h0 h1 K t
  · rw [xLd_agg, xCells_elem w 0 (f (gr z l j)) _ (hd.len _) fun m hm => by rw [Nat.zero_add]; exact hd.cell hj hm]
end
end Go.X
/- Lists of byte strings in known cells. Conditions: none (definitions, and lemmas of no function). -/
set_option linter.unusedVariables false
set_option linter.unusedSimpArgs false
namespace Go.X
open Go.RowKit Go.Bl
abbrev QS := Value × List Int
def gs (q : List QS) (i : Nat) : QS := q.getD i (.slice none 0 0, [])
def vsL (q : List QS) : List Value := q.map Prod.fst
def xsL (q : List QS) : List (List Int) := q.map Prod.snd
theorem gs_lt {l : List QS} {i : Nat} (hi : i < l.length) : gs l i = l[i] := by simp [gs, List.getD, hi]
theorem xsL_len (q : List QS) : (xsL q).length = q.length := by simp [xsL]
/-- slice value v reads as these byte strings -/
structure Strs (h : PH) (v : Value) (q : List QS) : Prop where
  s : Sl h v q.length 1 (vsL q)
  d : ∀ p ∈ q, Ints h .u8 p.1 p.2
theorem Strs.up {h h' : PH} (le : PH.le h h') {v : Value} {l : List QS} (hd : Strs h v l) : Strs h' v l := ⟨hd.s.up le, fun q hq => (hd.d q hq).up le⟩
theorem Strs.at {h : PH} {v : Value} {l : List QS} (hd : Strs h v l) {i : Nat} (hi : i < l.length) : Ints h .u8 (gs l i).1 (gs l i).2 := by
  rw [gs_lt hi]; exact hd.d _ (List.getElem_mem hi)
theorem Strs.open {h : PH} {v : Value} {l : List QS} (hd : Strs h v l) :
    ∃ a cap, v = .slice a l.length cap ∧ l.length ≤ cap ∧ l.length ≤ 9223372036854775807 ∧ (a = none → cap = 0) ∧ (∀ j, j < l.length → elemCell h a j = some (gs l j).1) ∧ Strs h (.slice a l.length cap) l := by
  obtain ⟨h1, a, cap, rfl, h3, h4, h4', h5, h6⟩ := hd.s
  exact ⟨a, cap, rfl, h3, h4', h5, fun j hj => h6 j _ (by rw [gs_lt hj]; simp [vsL, hj]), hd⟩
end Go.X
/- How a state reads in known cells: members, deposits, dues, motions, all of it. Conditions: none (definitions, and lemmas of no function). -/
set_option linter.unusedVariables false
set_option linter.unusedSimpArgs false
namespace Go.X
open Go.RowKit Go.Bl
structure MemD where
  bal : Int
  eff : Int
  score : Int
  streak : Int
  owner : Int
  status : Int
def zeroM : MemD := ⟨0, 0, 0, 0, 0, 0⟩
def memC (m : MemD) : List Value := [.int .u64 m.bal, .int .u64 m.eff, .int .u64 m.score, .int .i64 m.streak, .int .i64 m.owner, .int .i64 m.status]
structure MemOk (m : MemD) : Prop where
  u : ∀ z ∈ [m.bal, m.eff, m.score], 0 ≤ z ∧ z ≤ 18446744073709551615
  n : ∀ z ∈ [m.streak, m.owner, m.status], -9223372036854775808 ≤ z ∧ z ≤ 9223372036854775807
structure DepD where
  acct : Int
  mem : Int
  amt : Int
  new : Bool
def zeroDep : DepD := ⟨0, 0, 0, false⟩
def depC (d : DepD) : List Value := [.int .i64 d.acct, .int .i64 d.mem, .int .u64 d.amt, .bool d.new]
structure DepOk (d : DepD) : Prop where
  a : 0 ≤ d.amt ∧ d.amt ≤ 18446744073709551615
  n : ∀ z ∈ [d.acct, d.mem], -9223372036854775808 ≤ z ∧ z ≤ 9223372036854775807
structure DueD where
  acct : Int
  at' : Int
  amt : Int
def zeroDue : DueD := ⟨0, 0, 0⟩
def dueC (d : DueD) : List Value := [.int .i64 d.acct, .int .i64 d.at', .int .u64 d.amt]
structure DueOk (d : DueD) : Prop where
  a : 0 ≤ d.amt ∧ d.amt ≤ 18446744073709551615
  n : ∀ z ∈ [d.acct, d.at'], -9223372036854775808 ≤ z ∧ z ≤ 9223372036854775807
structure MotD where
  acct : Int
  what : Int
  par : ParD
  to : Int
  amt : Int
  ends : Int
  due : Int
  state : Int
  yes : List Int
  no : List Int
def zeroMot : MotD := ⟨0, 0, zeroP, 0, 0, 0, 0, 0, [], []⟩
/-- a motion with the slices of its votes -/
abbrev QM := Value × Value × MotD
def zeroQM : QM := (.slice none 0 0, .slice none 0 0, zeroMot)
def motC (q : QM) : List Value := .int .i64 q.2.2.acct :: .int .i64 q.2.2.what :: (parC q.2.2.par ++ [.int .i64 q.2.2.to, .int .u64 q.2.2.amt, .int .i64 q.2.2.ends, .int .i64 q.2.2.due, .int .i64 q.2.2.state, q.1, q.2.1])
structure MotOk (m : MotD) : Prop where
  a : 0 ≤ m.amt ∧ m.amt ≤ 18446744073709551615
  n : ∀ z ∈ [m.acct, m.what, m.to, m.ends, m.due, m.state], -9223372036854775808 ≤ z ∧ z ≤ 9223372036854775807
  p : ParOk m.par
structure IsMot (h : PH) (q : QM) : Prop where
  y : Ints h .u8 q.1 q.2.2.yes
  n : Ints h .u8 q.2.1 q.2.2.no
  ok : MotOk q.2.2
theorem IsMot.up {h h' : PH} (le : PH.le h h') {q : QM} (hd : IsMot h q) : IsMot h' q := ⟨hd.y.up le, hd.n.up le, hd.ok⟩
theorem memC_len (m : MemD) : (memC m).length = 6 := rfl
theorem depC_len (m : DepD) : (depC m).length = 4 := rfl
theorem dueC_len (m : DueD) : (dueC m).length = 3 := rfl
theorem motC_len (m : QM) : (motC m).length = 33 := rfl
structure StD where
  par : ParD
  most : Int
  gen : Int
  mint : Int
  burn : Int
  treas : Int
  ep : Int
  calm : Int
  emer : Bool
  purses : List Int
  members : List MemD
  entry : List Int
  exit : List Int
  pool : List DepD
  dues : List DueD
  motions : List MotD
  marks : List Int
  ring : List (List Int)
/-- the slices of a state -/
structure SV where
  p : Value
  m : Value
  e : Value
  x : Value
  o : Value
  d : Value
  t : Value
  k : Value
  r : Value
abbrev stC (s : StD) (v : SV) : List Value := [.int .u64 s.par.inc, .int .u64 s.par.maxEff, .int .u64 s.par.floor, .int .u64 s.par.cap, .int .u64 s.par.up, .int .u64 s.par.down, .int .u64 s.par.bias, .int .u64 s.par.quot, .int .u64 s.par.biasEm, .int .u64 s.par.quotEm, .int .u64 s.par.recover, .int .u64 s.par.scoreCap, .int .u64 s.par.rate, .int .u64 s.par.bond, .int .i64 s.par.delay, .int .i64 s.par.streak, .int .i64 s.par.boost, .int .i64 s.par.absent, .int .i64 s.par.burn, .int .i64 s.par.churn, .int .i64 s.par.wait, .int .i64 s.par.poll, .int .i64 s.par.enact, .int .i64 s.par.quorum,
  .int .u64 s.most, .int .u64 s.gen, .int .u64 s.mint, .int .u64 s.burn, .int .u64 s.treas, .int .i64 s.ep, .int .i64 s.calm, .bool s.emer, v.p, v.m, v.e, v.x, v.o, v.d, v.t, v.k, v.r]
abbrev stV (s : StD) (v : SV) : Value := .agg #[.int .u64 s.par.inc, .int .u64 s.par.maxEff, .int .u64 s.par.floor, .int .u64 s.par.cap, .int .u64 s.par.up, .int .u64 s.par.down, .int .u64 s.par.bias, .int .u64 s.par.quot, .int .u64 s.par.biasEm, .int .u64 s.par.quotEm, .int .u64 s.par.recover, .int .u64 s.par.scoreCap, .int .u64 s.par.rate, .int .u64 s.par.bond, .int .i64 s.par.delay, .int .i64 s.par.streak, .int .i64 s.par.boost, .int .i64 s.par.absent, .int .i64 s.par.burn, .int .i64 s.par.churn, .int .i64 s.par.wait, .int .i64 s.par.poll, .int .i64 s.par.enact, .int .i64 s.par.quorum,
  .int .u64 s.most, .int .u64 s.gen, .int .u64 s.mint, .int .u64 s.burn, .int .u64 s.treas, .int .i64 s.ep, .int .i64 s.calm, .bool s.emer, v.p, v.m, v.e, v.x, v.o, v.d, v.t, v.k, v.r]
structure StOk (s : StD) : Prop where
  p : ParOk s.par
  u : ∀ z ∈ [s.most, s.gen, s.mint, s.burn, s.treas], 0 ≤ z ∧ z ≤ 18446744073709551615
  n : ∀ z ∈ [s.ep, s.calm], -9223372036854775808 ≤ z ∧ z ≤ 9223372036854775807
/-- a value of these slices reads as this state -/
structure IsSt (h : PH) (v : SV) (s : StD) : Prop where
  ok : StOk s
  p : Ints h .u64 v.p s.purses
  m : Recs memC 6 h v.m s.members
  mo : ∀ x ∈ s.members, MemOk x
  e : Ints h .i64 v.e s.entry
  x : Ints h .i64 v.x s.exit
  o : Recs depC 4 h v.o s.pool
  oo : ∀ x ∈ s.pool, DepOk x
  d : Recs dueC 3 h v.d s.dues
  dd : ∀ x ∈ s.dues, DueOk x
  t : ∃ q : List QM, Recs motC 33 h v.t q ∧ q.map (fun x => x.2.2) = s.motions ∧ ∀ x ∈ q, IsMot h x
  k : Ints h .u8 v.k s.marks
  r : ∃ q, Strs h v.r q ∧ xsL q = s.ring
theorem IsSt.up {h h' : PH} (le : PH.le h h') {v : SV} {s : StD} (hs : IsSt h v s) : IsSt h' v s := by
  obtain ⟨q, t1, t2, t3⟩ := hs.t
  obtain ⟨r, r1, r2⟩ := hs.r
  exact ⟨hs.ok, hs.p.up le, hs.m.up le, hs.mo, hs.e.up le, hs.x.up le, hs.o.up le, hs.oo, hs.d.up le, hs.dd, ⟨q, t1.up le, t2, fun x hx => (t3 x hx).up le⟩, hs.k.up le, ⟨r, r1.up le, r2⟩⟩
theorem zeroP_ok' : ParOk zeroP := ⟨fun z hz => by simp [wides, zeroP] at hz; omega, fun z hz => by simp [narrows, zeroP] at hz; omega⟩
end Go.X

/- Lemmas and contracts for a statement about the given program. Conditions: as each says. -/
import Derived.Test.YtkmojeioedjfkaaGreatQ11
set_option linter.unusedVariables false
set_option linter.unusedSimpArgs false
set_option maxHeartbeats 12800000
set_option maxRecDepth 20000
namespace Go.X
open Go.RowKit Go.Bl
abbrev QS := Value × List Int
def gs (q : List QS) (i : Nat) : QS := q.getD i (.slice none 0 0, [])
def vsL (q : List QS) : List Value := q.map Prod.fst
def xsL (q : List QS) : List (List Int) := q.map Prod.snd
theorem gs_lt {l : List QS} {i : Nat} (hi : i < l.length) : gs l i = l[i] := by simp [gs, List.getD, hi]
theorem xsL_len (q : List QS) : (xsL q).length = q.length := by simp [xsL]
theorem vsL_len (q : List QS) : (vsL q).length = q.length := by simp [vsL]
structure Strs (h : PH) (v : Value) (q : List QS) : Prop where
 s : Sl h v q.length 1 (vsL q)
 d : ∀ p ∈ q, Ints h .u8 p.1 p.2
theorem Strs.up {h h' : PH} (le : PH.le h h') {v : Value} {l : List QS} (hd : Strs h v l) : Strs h' v l := ⟨hd.s.up le, fun q hq => (hd.d q hq).up le⟩
theorem Strs.at {h : PH} {v : Value} {l : List QS} (hd : Strs h v l) {i : Nat} (hi : i < l.length) : Ints h .u8 (gs l i).1 (gs l i).2 := by
 rw [gs_lt hi]; exact hd.d _ (List.getElem_mem hi)
theorem Strs.open {h : PH} {v : Value} {l : List QS} (hd : Strs h v l) :
  ∃ a cap, v = .slice a l.length cap ∧ l.length ≤ cap ∧ l.length ≤ 9223372036854775807 ∧ (a = none → cap = 0) ∧ (∀ j, j < l.length → elemCell h a j = some (gs l j).1) ∧ Strs h (.slice a l.length cap) l := by
 obtain ⟨h1, a, cap, rfl, h3, h4, h4', h5, h6⟩ := hd.s
 exact ⟨a, cap, rfl, h3, h4', h5, fun j hj => h6 j _ (by rw [gs_lt hj]; simp [vsL, hj]), hd⟩
theorem apO_next {o : Option (Nat × Nat)} {e sz : Nat} {xs : List Value} {L : Own} {h h' : PH} (ha : apO o L h) (ap : Ap (oent e sz o xs L) h') : apO o L h' := by
 cases o with
 | none => trivial
 | some p => exact ⟨ha.1, ap.1⟩
theorem Ap.oent {o : Option (Nat × Nat)} {e sz : Nat} {xs : List Value} {L : Own} {h : PH} (ap : Ap (oent e sz o xs L) h) : Ap L h := by
 cases o with
 | none => exact ap
 | some p => exact ap.2
structure MemD where
 bal : Int
 eff : Int
 score : Int
 streak : Int
 owner : Int
 status : Int
def zeroM : MemD := ⟨0, 0, 0, 0, 0, 0⟩
def memC (m : MemD) : List Value := [.int .u64 m.bal, .int .u64 m.eff, .int .u64 m.score, .int .i64 m.streak, .int .i64 m.owner, .int .i64 m.status]
structure MemOk (m : MemD) : Prop where
 u : ∀ z ∈ [m.bal, m.eff, m.score], 0 ≤ z ∧ z ≤ 18446744073709551615
 n : ∀ z ∈ [m.streak, m.owner, m.status], -9223372036854775808 ≤ z ∧ z ≤ 9223372036854775807
structure DepD where
 acct : Int
 mem : Int
 amt : Int
 new : Bool
def zeroDep : DepD := ⟨0, 0, 0, false⟩
def depC (d : DepD) : List Value := [.int .i64 d.acct, .int .i64 d.mem, .int .u64 d.amt, .bool d.new]
structure DepOk (d : DepD) : Prop where
 a : 0 ≤ d.amt ∧ d.amt ≤ 18446744073709551615
 n : ∀ z ∈ [d.acct, d.mem], -9223372036854775808 ≤ z ∧ z ≤ 9223372036854775807
structure DueD where
 acct : Int
 at' : Int
 amt : Int
def zeroDue : DueD := ⟨0, 0, 0⟩
def dueC (d : DueD) : List Value := [.int .i64 d.acct, .int .i64 d.at', .int .u64 d.amt]
structure DueOk (d : DueD) : Prop where
 a : 0 ≤ d.amt ∧ d.amt ≤ 18446744073709551615
 n : ∀ z ∈ [d.acct, d.at'], -9223372036854775808 ≤ z ∧ z ≤ 9223372036854775807
structure MotD where
 acct : Int
 what : Int
 par : ParD
 to : Int
 amt : Int
 ends : Int
 due : Int
 state : Int
 yes : List Int
 no : List Int
def zeroMot : MotD := ⟨0, 0, zeroP, 0, 0, 0, 0, 0, [], []⟩
abbrev QM := Value × Value × MotD
def zeroQM : QM := (.slice none 0 0, .slice none 0 0, zeroMot)
def motC (q : QM) : List Value := .int .i64 q.2.2.acct :: .int .i64 q.2.2.what :: (parC q.2.2.par ++ [.int .i64 q.2.2.to, .int .u64 q.2.2.amt, .int .i64 q.2.2.ends, .int .i64 q.2.2.due, .int .i64 q.2.2.state, q.1, q.2.1])
structure MotOk (m : MotD) : Prop where
 a : 0 ≤ m.amt ∧ m.amt ≤ 18446744073709551615
 n : ∀ z ∈ [m.acct, m.what, m.to, m.ends, m.due, m.state], -9223372036854775808 ≤ z ∧ z ≤ 9223372036854775807
 p : ParOk m.par
structure IsMot (h : PH) (q : QM) : Prop where
 y : Ints h .u8 q.1 q.2.2.yes
 n : Ints h .u8 q.2.1 q.2.2.no
 ok : MotOk q.2.2
theorem IsMot.up {h h' : PH} (le : PH.le h h') {q : QM} (hd : IsMot h q) : IsMot h' q := ⟨hd.y.up le, hd.n.up le, hd.ok⟩
theorem memC_len (m : MemD) : (memC m).length = 6 := rfl
theorem depC_len (m : DepD) : (depC m).length = 4 := rfl
theorem dueC_len (m : DueD) : (dueC m).length = 3 := rfl
theorem motC_len (m : QM) : (motC m).length = 33 := rfl
structure StD where
 par : ParD
 most : Int
 gen : Int
 mint : Int
 burn : Int
 treas : Int
 ep : Int
 calm : Int
 emer : Bool
 purses : List Int
 members : List MemD
 entry : List Int
 exit : List Int
 pool : List DepD
 dues : List DueD
 motions : List MotD
 marks : List Int
 ring : List (List Int)
def zeroS : StD := ⟨zeroP, 0, 0, 0, 0, 0, 0, 0, false, [], [], [], [], [], [], [], [], []⟩
structure SV where
 p : Value
 m : Value
 e : Value
 x : Value
 o : Value
 d : Value
 t : Value
 k : Value
 r : Value
def nilV : SV := ⟨.slice none 0 0, .slice none 0 0, .slice none 0 0, .slice none 0 0, .slice none 0 0, .slice none 0 0, .slice none 0 0, .slice none 0 0, .slice none 0 0⟩
abbrev stC (s : StD) (v : SV) : List Value := [.int .u64 s.par.inc, .int .u64 s.par.maxEff, .int .u64 s.par.floor, .int .u64 s.par.cap, .int .u64 s.par.up, .int .u64 s.par.down, .int .u64 s.par.bias, .int .u64 s.par.quot, .int .u64 s.par.biasEm, .int .u64 s.par.quotEm, .int .u64 s.par.recover, .int .u64 s.par.scoreCap, .int .u64 s.par.rate, .int .u64 s.par.bond, .int .i64 s.par.delay, .int .i64 s.par.streak, .int .i64 s.par.boost, .int .i64 s.par.absent, .int .i64 s.par.burn, .int .i64 s.par.churn, .int .i64 s.par.wait, .int .i64 s.par.poll, .int .i64 s.par.enact, .int .i64 s.par.quorum,
 .int .u64 s.most, .int .u64 s.gen, .int .u64 s.mint, .int .u64 s.burn, .int .u64 s.treas, .int .i64 s.ep, .int .i64 s.calm, .bool s.emer, v.p, v.m, v.e, v.x, v.o, v.d, v.t, v.k, v.r]
abbrev stV (s : StD) (v : SV) : Value := .agg #[.int .u64 s.par.inc, .int .u64 s.par.maxEff, .int .u64 s.par.floor, .int .u64 s.par.cap, .int .u64 s.par.up, .int .u64 s.par.down, .int .u64 s.par.bias, .int .u64 s.par.quot, .int .u64 s.par.biasEm, .int .u64 s.par.quotEm, .int .u64 s.par.recover, .int .u64 s.par.scoreCap, .int .u64 s.par.rate, .int .u64 s.par.bond, .int .i64 s.par.delay, .int .i64 s.par.streak, .int .i64 s.par.boost, .int .i64 s.par.absent, .int .i64 s.par.burn, .int .i64 s.par.churn, .int .i64 s.par.wait, .int .i64 s.par.poll, .int .i64 s.par.enact, .int .i64 s.par.quorum,
 .int .u64 s.most, .int .u64 s.gen, .int .u64 s.mint, .int .u64 s.burn, .int .u64 s.treas, .int .i64 s.ep, .int .i64 s.calm, .bool s.emer, v.p, v.m, v.e, v.x, v.o, v.d, v.t, v.k, v.r]
structure StOk (s : StD) : Prop where
 p : ParOk s.par
 u : ∀ z ∈ [s.most, s.gen, s.mint, s.burn, s.treas], 0 ≤ z ∧ z ≤ 18446744073709551615
 n : ∀ z ∈ [s.ep, s.calm], -9223372036854775808 ≤ z ∧ z ≤ 9223372036854775807
structure IsSt (h : PH) (v : SV) (s : StD) : Prop where
 ok : StOk s
 p : Ints h .u64 v.p s.purses
 m : Recs memC 6 h v.m s.members
 mo : ∀ x ∈ s.members, MemOk x
 e : Ints h .i64 v.e s.entry
 x : Ints h .i64 v.x s.exit
 o : Recs depC 4 h v.o s.pool
 oo : ∀ x ∈ s.pool, DepOk x
 d : Recs dueC 3 h v.d s.dues
 dd : ∀ x ∈ s.dues, DueOk x
 t : ∃ q : List QM, Recs motC 33 h v.t q ∧ q.map (fun x => x.2.2) = s.motions ∧ ∀ x ∈ q, IsMot h x
 k : Ints h .u8 v.k s.marks
 r : ∃ q, Strs h v.r q ∧ xsL q = s.ring
theorem IsSt.up {h h' : PH} (le : PH.le h h') {v : SV} {s : StD} (hs : IsSt h v s) : IsSt h' v s := by
 obtain ⟨q, t1, t2, t3⟩ := hs.t
 obtain ⟨r, r1, r2⟩ := hs.r
 exact ⟨hs.ok, hs.p.up le, hs.m.up le, hs.mo, hs.e.up le, hs.x.up le, hs.o.up le, hs.oo, hs.d.up le, hs.dd, ⟨q, t1.up le, t2, fun x hx => (t3 x hx).up le⟩, hs.k.up le, ⟨r, r1.up le, r2⟩⟩
theorem strs_nil (h : PH) : Strs h (.slice none 0 0) [] := ⟨⟨rfl, none, 0, rfl, Nat.le_refl _, by decide, by decide, fun _ => rfl, fun j c hj => by simp [vsL] at hj⟩, fun q hq => by cases hq⟩
theorem zeroP_ok' : ParOk zeroP := ⟨fun z hz => by simp [wides, zeroP] at hz; omega, fun z hz => by simp [narrows, zeroP] at hz; omega⟩
theorem isSt_zero (h : PH) : IsSt h nilV zeroS :=
 ⟨⟨zeroP_ok', fun z hz => by simp [zeroS] at hz; omega, fun z hz => by simp [zeroS] at hz; omega⟩, nil_ints h .u64, Recs.nil memC_len h, (fun x hx => by cases hx), nil_ints h .i64, nil_ints h .i64, Recs.nil depC_len h, (fun x hx => by cases hx), Recs.nil dueC_len h, (fun x hx => by cases hx), ⟨[], Recs.nil motC_len h, rfl, fun x hx => by cases hx⟩, nil_ints h .u8, ⟨[], strs_nil h, rfl⟩⟩
end Go.X

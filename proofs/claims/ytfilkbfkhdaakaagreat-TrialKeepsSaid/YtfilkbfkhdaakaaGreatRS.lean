/- Lists of byte strings in known cells. Conditions: none (definitions, and lemmas of no function). -/
import Derived.Test.YtfilkbfkhdaakaaGreatXM
set_option linter.unusedVariables false
set_option linter.unusedSimpArgs false
namespace Go.X
open Go.RowKit Go.Bl
abbrev QS := Value × List Int
def gs (q : List QS) (i : Nat) : QS := q.getD i (.slice none 0 0, [])
def vsL (q : List QS) : List Value := q.map Prod.fst
def xsL (q : List QS) : List (List Int) := q.map Prod.snd
theorem gs_lt {l : List QS} {i : Nat} (hi : i < l.length) : gs l i = l[i] := by simp [gs, List.getD, hi]
theorem xsL_len (q : List QS) : (xsL q).length = q.length := by simp [xsL]
theorem vsL_len (q : List QS) : (vsL q).length = q.length := by simp [vsL]
/-- slice value v reads as these byte strings -/
structure Strs (h : PH) (v : Value) (q : List QS) : Prop where
  s : Sl h v q.length 1 (vsL q)
  d : ∀ p ∈ q, Ints h .u8 p.1 p.2
theorem Strs.up {h h' : PH} (le : PH.le h h') {v : Value} {l : List QS} (hd : Strs h v l) : Strs h' v l := ⟨hd.s.up le, fun q hq => (hd.d q hq).up le⟩
theorem Strs.at {h : PH} {v : Value} {l : List QS} (hd : Strs h v l) {i : Nat} (hi : i < l.length) : Ints h .u8 (gs l i).1 (gs l i).2 := by
  rw [gs_lt hi]; exact hd.d _ (List.getElem_mem hi)
theorem Strs.open {h : PH} {v : Value} {l : List QS} (hd : Strs h v l) :
    ∃ a cap, v = .slice a l.length cap ∧ l.length ≤ cap ∧ l.length ≤ 9223372036854775807 ∧ (a = none → cap = 0) ∧ (∀ j, j < l.length → elemCell h a j = some (gs l j).1) ∧ Strs h (.slice a l.length cap) l := by
  obtain ⟨h1, a, cap, rfl, h3, h4, h4', h5, h6⟩ := hd.s
  exact ⟨a, cap, rfl, h3, h4', h5, fun j hj => h6 j _ (by rw [gs_lt hj]; simp [vsL, hj]), hd⟩
theorem xsL_at {l : List QS} {i : Nat} (hi : i < l.length) : (xsL l)[i]? = some (gs l i).2 := by rw [gs_lt hi]; simp [xsL, hi]
theorem apO_next {o : Option (Nat × Nat)} {e sz : Nat} {xs : List Value} {L : Own} {h h' : PH} (ha : apO o L h) (ap : Ap (oent e sz o xs L) h') : apO o L h' := by
  cases o with
  | none => trivial
  | some p => exact ⟨ha.1, ap.1⟩
theorem Ap.oent {o : Option (Nat × Nat)} {e sz : Nat} {xs : List Value} {L : Own} {h : PH} (ap : Ap (oent e sz o xs L) h) : Ap L h := by
  cases o with
  | none => exact ap
  | some p => exact ap.2
theorem strs_pub {h : PH} {o : Option (Nat × Nat)} {q : List QS} (sl : Sl h (ovs o q.length) q.length 1 (vsL q)) (hd : ∀ p ∈ q, Ints h .u8 p.1 p.2) : Strs h (ovs o q.length) q := ⟨sl, hd⟩
end Go.X

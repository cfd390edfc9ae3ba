/- Two structs of numbers, compared. Conditions: as each lemma says (the fields are numbers, one cell each, in order). -/
import Derived.Laws.StructEq
import Derived.Test.YtbobjcapmfpmkaaXB
set_option linter.unusedVariables false
set_option linter.unusedSimpArgs false
namespace Go.X
open Go.RowKit Go.Bl
variable {P : Program}
def okF (P : Program) : List Field → Nat → List IntKind → Bool
  | [], _, [] => true
  | f :: fs, i, k :: ks => decide (f.name ≠ "_") && (f.offset == i) && (match P.underlying f.type with
    | some (.int k') => k' == k
    | _ => false) && okF P fs (i + 1) ks
  | _, _, _ => false
theorem eqFields_ints (d : Nat) (w : World) (xs ys : Array Value) : ∀ (fs : List Field) (i : Nat) (ks : List IntKind) (as bs : List Int), okF P fs i ks = true → as.length = ks.length → bs.length = ks.length →
    (∀ j : Nat, xs[i + j]? = (List.zipWith Value.int ks as)[j]?) → (∀ j : Nat, ys[i + j]? = (List.zipWith Value.int ks bs)[j]?) → (Op.eqFields (d + 1) xs ys fs).run P w = .ok (decide (as = bs)) w
  | [], i, [], as, bs, _, ha, hb, _, _ => by
    have : as = [] := List.eq_nil_of_length_eq_zero ha
    have : bs = [] := List.eq_nil_of_length_eq_zero hb
    subst as; subst bs
    simp [Op.eqFields]
  | [], _, _ :: _, _, _, h, _, _, _, _ => by simp [okF] at h
  | _ :: _, _, [], _, _, h, _, _, _, _ => by simp [okF] at h
  | f :: fs, i, k :: ks, [], _, h, ha, _, _, _ => by simp at ha
  | f :: fs, i, k :: ks, _ :: _, [], h, _, hb, _, _ => by simp at hb
  | f :: fs, i, k :: ks, a :: as, b :: bs, h, ha, hb, hx, hy => by
    simp only [okF, Bool.and_eq_true, decide_eq_true_eq, beq_iff_eq] at h
    obtain ⟨⟨⟨h1, h2⟩, h3⟩, h4⟩ := h
    cases hu : P.underlying f.type with
    | none => rw [hu] at h3; cases h3
    | some u =>
      rw [hu] at h3
      cases u <;> try (cases h3)
      rename_i k'
      have hk : k' = k := by simpa using h3
      subst hk
      have hx0 := hx 0
      have hy0 := hy 0
      simp only [Nat.add_zero, List.zipWith_cons_cons, List.getElem?_cons_zero] at hx0 hy0
      have hag : (isAgg f.type).run P w = .ok false w := run_isAgg hu w
      have px : (part f.type xs f.offset).run P w = .ok (.int k' a) w := by
        rw [h2]; simp [part, hag, hx0]
      have py : (part f.type ys f.offset).run P w = .ok (.int k' b) w := by
        rw [h2]; simp [part, hag, hy0]
      have ih := eqFields_ints d w xs ys fs (i + 1) ks as bs h4 (by simpa using ha) (by simpa using hb)
        (fun j => by have := hx (j + 1); rw [show i + 1 + j = i + (j + 1) by omega]; simpa using this)
        (fun j => by have := hy (j + 1); rw [show i + 1 + j = i + (j + 1) by omega]; simpa using this)
      rw [Op.eqFields, if_pos h1]
      simp only [Sem.run_bind, px, py, Result.andThen_ok, run_equalIn_int w d f.type k' k' a b hu]
      by_cases e : a = b
      · subst e
        simp [ih]
      · simp [e]
theorem run_eq_ints {T : Nat} {ks : List IntKind} (ht : P.underlying T = some (.struct (P.fieldsOf T))) (hp : P.stoodInHeld T = false) (hok : okF P (P.fieldsOf T).toList 0 ks = true) (as bs : List Int) (ha : as.length = ks.length) (hb : bs.length = ks.length) (w : World) :
    (Op.equalIn 10000 T (.agg (List.zipWith Value.int ks as).toArray) (.agg (List.zipWith Value.int ks bs).toArray)).run P w = .ok (decide (as = bs)) w := by
  rw [show (10000 : Nat) = 9999 + 1 by rfl, run_equalIn_struct w 9999 T _ _ ht hp]
  exact eqFields_ints 9998 w _ _ _ 0 ks as bs hok ha hb (fun j => by simp) (fun j => by simp)
theorem xBin_eqints {T : Nat} {ks : List IntKind} (ht : P.underlying T = some (.struct (P.fieldsOf T))) (hp : P.stoodInHeld T = false) (hg : P.eqGuardType P.depth T = false) (hok : okF P (P.fieldsOf T).toList 0 ks = true) (as bs : List Int) (ha : as.length = ks.length) (hb : bs.length = ks.length)
    (x y : Operand) (K : Value → Prop) (t : Tok K) : xBin P .eql T x y (.agg (List.zipWith Value.int ks as).toArray) (.agg (List.zipWith Value.int ks bs).toArray) K t = K (.bool (decide (as = bs))) :=
  xRun_of (fun W => by
    simp only [Sem.run_bind, run_eqGuard_agg W .eql T x y _ _ hg, Result.andThen_ok, run_eql_struct, run_eq_ints ht hp hok as bs ha hb W]) K
end Go.X

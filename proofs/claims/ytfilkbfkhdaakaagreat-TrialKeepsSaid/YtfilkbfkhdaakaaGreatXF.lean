/- A struct of numbers and bools, however nested, is the same as itself; lists of records in known cells. Conditions: as each lemma says. -/
import Derived.Test.YtfilkbfkhdaakaaGreatXM
set_option linter.unusedVariables false
set_option linter.unusedSimpArgs false
namespace Go.X
open Go.RowKit Go.Bl
section
variable {P : Program}
def partV (P : Program) (t : TypeId) (xs : Array Value) (off : Nat) : Option Value :=
  match P.underlying t, P.info? t with
  | some d, some i => if isAggD d then some (.agg (xs.extract off (off + i.size))) else xs[off]?
  | _, _ => none
theorem run_partV {t : TypeId} {xs : Array Value} {off : Nat} {u : Value} (h : partV P t xs off = some u) (W : World) : (part t xs off).run P W = .ok u W := by
  unfold partV at h
  split at h
  · rename_i d i hd hi
    have ha := run_isAgg hd W
    have hs := run_sizeOf hi W
    split at h
    · rename_i hag
      injection h with h
      subst h
      simp [part, ha, hag, hs]
    · rename_i hag
      have hag' : isAggD d = false := by simpa using hag
      simp [part, ha, hag', h]
  · cases h
/-- a value of numbers and bools, of its type -/
def flatB (P : Program) : Nat → TypeId → Value → Bool
  | 0, _, _ => false
  | d + 1, t, v => match P.underlying t, v with
    | some .bool, .bool _ => true
    | some (.int k), .int k' _ => k == k'
    | some (.struct fs), .agg xs => !P.stoodInHeld t && fs.toList.all fun f => f.name == "_" || (match partV P f.type xs f.offset with
      | some u => flatB P d f.type u
      | none => false)
    | _, _ => false
theorem flat_same : ∀ (d : Nat) (t : TypeId) (v : Value), flatB P d t v = true → ∀ (D : Nat) (W : World), (Op.equalIn (D + d) t v v).run P W = .ok true W
  | 0, _, _, h, _, _ => by cases h
  | d + 1, t, v, h, D, W => by
    unfold flatB at h
    split at h
    · rename_i hu
      rw [← Nat.add_assoc, Op.equalIn]
      simp [underlying, hu]
    · rename_i k k' n hu
      have : k = k' := by simpa using h
      subst this
      rw [← Nat.add_assoc]
      rw [run_equalIn_int W (D + d) t k k n n hu]
      simp
    · rename_i fs xs hu
      simp only [Bool.and_eq_true, Bool.not_eq_true'] at h
      have hf : P.fieldsOf t = fs := by simp [Program.fieldsOf, hu]
      rw [← Nat.add_assoc, run_equalIn_struct W (D + d) t xs xs (by rw [hf]; exact hu) h.1, hf]
      have key : ∀ l : List Field, (l.all fun f => f.name == "_" || (match partV P f.type xs f.offset with
          | some u => flatB P d f.type u
          | none => false)) = true → (Op.eqFields (D + d) xs xs l).run P W = .ok true W := by
        intro l
        induction l with
        | nil => intro _; simp [Op.eqFields]
        | cons f l ih =>
          intro hl
          rw [List.all_cons, Bool.and_eq_true] at hl
          by_cases hn : f.name = "_"
          · rw [Op.eqFields, if_neg (by simpa using hn)]
            exact ih hl.2
          · have h1 := hl.1
            have : (f.name == "_") = false := by simpa using hn
            rw [this, Bool.false_or] at h1
            split at h1
            · rename_i u hp
              have hr := run_partV hp W
              have he := flat_same d f.type u h1 D W
              rw [Op.eqFields, if_pos hn]
              simp [hr, he, ih hl.2]
            · cases h1
      exact key _ h.2
    · cases h
theorem xBin_eqflat {T : TypeId} (xs : Array Value) (hf : flatB P 8 T (.agg xs) = true) (hg : P.eqGuardType P.depth T = false) (x y : Operand) (K : Value → Prop) (t : Tok K) : xBin P .eql T x y (.agg xs) (.agg xs) K t = K (.bool true) :=
  xRun_of (fun W => by
    simp only [Sem.run_bind, run_eqGuard_agg W .eql T x y _ _ hg, Result.andThen_ok, run_eql_struct, flat_same 8 T (.agg xs) hf 9992 W]) K
theorem xBin_neflat {T : TypeId} (xs : Array Value) (hf : flatB P 8 T (.agg xs) = true) (hg : P.eqGuardType P.depth T = false) (x y : Operand) (K : Value → Prop) (t : Tok K) : xBin P .neq T x y (.agg xs) (.agg xs) K t = K (.bool false) :=
  xRun_of (fun W => by
    simp only [Sem.run_bind, run_eqGuard_agg W .neq T x y _ _ hg, Result.andThen_ok, run_neq_struct, flat_same 8 T (.agg xs) hf 9992 W, Bool.not_true]) K
end
abbrev parV (p : ParD) : Value := .agg #[.int .u64 p.inc, .int .u64 p.maxEff, .int .u64 p.floor, .int .u64 p.cap, .int .u64 p.up, .int .u64 p.down, .int .u64 p.bias, .int .u64 p.quot, .int .u64 p.biasEm, .int .u64 p.quotEm, .int .u64 p.recover, .int .u64 p.scoreCap, .int .u64 p.rate, .int .u64 p.bond, .int .i64 p.delay, .int .i64 p.streak, .int .i64 p.boost, .int .i64 p.absent, .int .i64 p.burn, .int .i64 p.churn, .int .i64 p.wait, .int .i64 p.poll, .int .i64 p.enact, .int .i64 p.quorum]
abbrev parC (p : ParD) : List Value := [.int .u64 p.inc, .int .u64 p.maxEff, .int .u64 p.floor, .int .u64 p.cap, .int .u64 p.up, .int .u64 p.down, .int .u64 p.bias, .int .u64 p.quot, .int .u64 p.biasEm, .int .u64 p.quotEm, .int .u64 p.recover, .int .u64 p.scoreCap, .int .u64 p.rate, .int .u64 p.bond, .int .i64 p.delay, .int .i64 p.streak, .int .i64 p.boost, .int .i64 p.absent, .int .i64 p.burn, .int .i64 p.churn, .int .i64 p.wait, .int .i64 p.poll, .int .i64 p.enact, .int .i64 p.quorum]
/-! ### lists of records in known cells -/
theorem flatG_get {α β : Type} {f : α → List β} {k : Nat} (hf : ∀ a, (f a).length = k) : ∀ (l : List α) (i m : Nat), m < k → (l.flatMap f)[i * k + m]? = (l[i]?).bind fun a => (f a)[m]?
  | [], i, m, _ => by simp
  | a :: l, 0, m, hm => by
    rw [List.flatMap_cons, List.getElem?_append_left (by rw [hf]; omega)]
    simp
  | a :: l, i + 1, m, hm => by
    have e : (i + 1) * k + m = k + (i * k + m) := by rw [Nat.add_mul]; omega
    rw [List.flatMap_cons, List.getElem?_append_right (by rw [hf, e]; omega), hf, e, Nat.add_sub_cancel_left, flatG_get hf l i m hm]
    simp
theorem flatG_len {α β : Type} {f : α → List β} {k : Nat} (hf : ∀ a, (f a).length = k) : ∀ (l : List α), (l.flatMap f).length = l.length * k
  | [] => by simp
  | a :: l => by rw [List.flatMap_cons, List.length_append, hf, flatG_len hf l, List.length_cons, Nat.add_mul]; omega
/-- element i, or the one that is handed in -/
def gr {α : Type} (z : α) (l : List α) (i : Nat) : α := l.getD i z
theorem gr_lt {α : Type} {z : α} {l : List α} {i : Nat} (hi : i < l.length) : gr z l i = l[i] := by simp [gr, List.getD, hi]
/-- slice value v reads as these records, each of w cells -/
structure Recs {α : Type} (f : α → List Value) (w : Nat) (h : PH) (v : Value) (l : List α) : Prop where
  len : ∀ a, (f a).length = w
  s : Sl h v l.length w (l.flatMap f)
section
variable {α : Type} {f : α → List Value} {w : Nat} {h : PH} {v : Value} {l : List α}
theorem Recs.up {h' : PH} (le : PH.le h h') (hd : Recs f w h v l) : Recs f w h' v l := ⟨hd.len, hd.s.up le⟩
theorem Recs.nil (hw : ∀ a, (f a).length = w) (h : PH) : Recs f w h (.slice none 0 0) [] := ⟨hw, ⟨by simp, none, 0, rfl, Nat.le_refl _, by decide, by simp, fun _ => rfl, fun j c hj => by simp at hj⟩⟩
theorem Recs.open (hd : Recs f w h v l) : ∃ a cap, v = .slice a l.length cap ∧ l.length ≤ cap ∧ l.length ≤ 9223372036854775807 ∧ (a = none → cap = 0) ∧ Recs f w h (.slice a l.length cap) l := by
  obtain ⟨h1, a, cap, rfl, h3, h4, h4', h5, h6⟩ := hd.s
  exact ⟨a, cap, rfl, h3, h4', h5, hd⟩
theorem Recs.cell {a : Option Addr} {n c : Nat} {z : α} (hd : Recs f w h (.slice a n c) l) {i m : Nat} (hi : i < l.length) (hm : m < w) : elemCell h a (i * w + m) = (f (gr z l i))[m]? := by
  obtain ⟨h1, a', cap, h2, h3, h4, h4', h5, h6⟩ := hd.s
  injection h2 with e1 e2 e3
  subst e1
  have hg := flatG_get hd.len l i m hm
  rw [List.getElem?_eq_getElem hi, Option.bind_some, ← gr_lt (z := z) hi] at hg
  obtain ⟨u, hu⟩ : ∃ u, (f (gr z l i))[m]? = some u := ⟨_, List.getElem?_eq_getElem (by rw [hd.len]; exact hm)⟩
  rw [hu] at hg ⊢
  exact h6 _ _ hg
/-- by a known list of records: its indices and its loads -/
theorem idxR {a : Option Addr} {n c0 : Nat} (z : α) (hw0 : 0 < w) (hd : Recs f w h (.slice a n c0) l) :
    (∀ (m c e by' : Nat) (k : IntKind) (j : Int) (K : Value → Prop) (t : Tok K), 0 ≤ j → j < (l.length : Int) → m = l.length → xIA (.sl e w by') (.slice a m c) (.int k j) K t = K (.pointer (elem a (j.toNat * w)))) ∧
    (∀ (j : Nat) (K : Option Addr → Prop) (t : Tok K), j < l.length → xPtr (.pointer (elem a (j * w))) K t = K (elem a (j * w))) ∧
    (∀ (L : Own) (j : Nat) (zz : List Value) (by' : Nat) (K : Value → Prop) (t : Tok K), j < l.length → xLd ⟨w, true, zz, by'⟩ L h (elem a (j * w)) K t = K (.agg (f (gr z l j)).toArray)) ∧
    (∀ (j o : Nat) (K : Value → Prop) (t : Tok K), j < l.length → xAddO (.pointer (elem a (j * w))) o K t = K (.pointer (elem a (j * w + o)))) ∧
    (∀ (j o : Nat) (K : Option Addr → Prop) (t : Tok K), j < l.length → xPtr (.pointer (elem a (j * w + o))) K t = K (elem a (j * w + o))) := by
  have hne : ∀ j, j < l.length → a ≠ none := fun j hj e => by
    have := hd.cell (z := z) hj (m := 0) hw0
    rw [e, List.getElem?_eq_getElem (by rw [hd.len]; exact hw0)] at this
    simp [elemCell] at this
  refine ⟨fun m c e by' k j K t h0 h1 hm => ?_, fun j K t hj => xPtr_elem (hne j hj) K, fun L j zz by' K t hj => ?_, fun j o K t hj => xAddO_elem (hne j hj) _ _ K, fun j o K t hj => xPtr_elem (hne j hj) K⟩
  · subst hm
    exact xIA_elem (hne j.toNat (by omega)) e w by' _ c k j h0 h1 K t
  · rw [xLd_agg, xCells_elem w 0 (f (gr z l j)) _ (hd.len _) fun m hm => by rw [Nat.zero_add]; exact hd.cell hj hm]
theorem Recs.fld {a : Option Addr} {n c0 : Nat} (z : α) (hd : Recs f w h (.slice a n c0) l) {j o : Nat} (hj : j < l.length) {u : Value} (ho : (f (gr z l j))[o]? = some u) (L : Own) (K : Value → Prop) (t : Tok K) :
    xCell L h (elem a (j * w + o)) 0 K t = K u := by
  have hm : o < w := by
    have := (List.getElem?_eq_some_iff.1 ho).1
    rwa [hd.len] at this
  exact xCell_elem (by rw [Nat.add_zero, hd.cell (z := z) hj hm, ho]) K
theorem Recs.pub {o : Option (Nat × Nat)} (hw : ∀ a, (f a).length = w) (sl : Sl h (ovs o l.length) l.length w (l.flatMap f)) : Recs f w h (ovs o l.length) l := ⟨hw, sl⟩
end
end Go.X

/- Lemmas and contracts for a statement about the given program. Conditions: as each says. -/
import Derived.Test.YtkmojeioedjfkaaGreatQ23
import Derived.Test.YtkmojeioedjfkaaGreatQ24
set_option linter.unusedVariables false
set_option linter.unusedSimpArgs false
set_option maxHeartbeats 12800000
set_option maxRecDepth 20000
namespace Go.X
open Go.RowKit Go.Bl
abbrev RS := (Nat × Int) × Int
def Gd (r : RS) : Prop := r.2 = 0 ∧ r.1.2 = 0
instance gdDec (r : RS) : Decidable (Gd r) := by unfold Gd; infer_instance
def At (c : Bool) (xs : List Int) (r : RS) (b : List Int) : Prop := r.2 = 0 ∧ if c then Short xs r.1 b else r.1.2 = 0 ∧ xs.drop r.1.1 = b
structure Cod {α : Type} (xs : List Int) (f : RS → α × RS) (enc : α → List Int) (P R : α → Prop) : Prop where
 stop : ∀ r, ¬ Gd r → (f r).2 = r
 pos : ∀ r, r.1.1 ≤ xs.length → (f r).2.1.1 ≤ xs.length ∧ R (f r).1
 sound : ∀ r, r.1.1 ≤ xs.length → Gd (f r).2 → Gd r ∧ xs.drop r.1.1 = enc (f r).1 ++ xs.drop (f r).2.1.1
 ahead : ∀ c a rest r, P a → At c xs r (enc a ++ rest) → (c = true ∧ (f r).2.1.2 = 50) ∨ (f r).1 = a ∧ At c xs (f r).2 rest
theorem At.gd {c : Bool} {xs b : List Int} {r : RS} (h : At c xs r b) : Gd r ∨ c = true ∧ r.1.2 = 50 := by
 obtain ⟨h1, h2⟩ := h
 cases c with
 | true =>
  rcases h2 with h2 | ⟨h2, _⟩
  ·exact Or.inr ⟨rfl, h2⟩
  ·exact Or.inl ⟨h1, h2⟩
 | false => exact Or.inl ⟨h1, h2.1⟩
theorem bad50 {r : RS} (h : r.1.2 = 50) : ¬ Gd r := fun g => by have := g.2; omega
def iN (xs : List Int) (most : Int) (r : RS) : Int × RS := if r.2 = 0 then ((rNum xs r.1 most).1, ((rNum xs r.1 most).2, r.2)) else (0, r)
def iF (xs : List Int) (r : RS) : Bool × RS := if r.2 = 0 then (decide ((rNum xs r.1 1).1 = 1), ((rNum xs r.1 1).2, r.2)) else (false, r)
def iR (xs : List Int) (r : RS) : List Int × RS := if r.2 = 0 then ((rRaw xs r.1 32).1, ((rRaw xs r.1 32).2, r.2)) else ([], r)
def iP (xs : List Int) (r : RS) : ParD × RS := if r.2 = 0 then ((pRead xs r.1).1, ((rPar xs r.1).2, if (rPar xs r.1).2.2 = 0 then (pRead xs r.1).2 else 0)) else (zeroP, r)
section
variable {xs : List Int}
theorem cod_num (hz : ∀ z ∈ xs, 0 ≤ z ∧ z ≤ 255) {most : Int} (h0 : 0 ≤ most) (hm : most < 18446744073709551616) : Cod xs (iN xs most) numEnc (fun z => 0 ≤ z ∧ z ≤ most) (fun z => 0 ≤ z ∧ z ≤ most) where
 stop r hr := by
  by_cases h : r.2 = 0
  ·have h2 : r.1.2 ≠ 0 := fun hh => hr ⟨h, hh⟩
   simp only [iN, if_pos h, rNum_stop h2]
  ·simp only [iN, if_neg h]
 pos r hr := by
  by_cases h : r.2 = 0
  ·simp only [iN, if_pos h]
   exact rNum_pos xs r.1 most hz hr h0
  ·simp only [iN, if_neg h]
   exact ⟨hr, by omega, h0⟩
 sound r hr hg := by
  by_cases h : r.2 = 0
  ·simp only [iN, if_pos h] at hg ⊢
   obtain ⟨h1, n, hv, _, _, hd, _⟩ := rNum_sound (v := (rNum xs r.1 most).1) (k := (rNum xs r.1 most).2.1) hz (Prod.ext rfl (Prod.ext rfl hg.2))
   refine ⟨⟨h, h1⟩, ?_⟩
   rw [hv, numEnc, Int.toNat_natCast]
   exact hd
  ·simp only [iN, if_neg h] at hg
   exact absurd hg.1 h
 ahead c a rest r hp hat := by
  simp only [iN, if_pos hat.1]
  rcases num_ahead (c := c) hp.1 hp.2 (by omega) hat.2 with h | ⟨v, _, n, _⟩
  ·exact Or.inl h
  ·exact Or.inr ⟨v, hat.1, n⟩
theorem cod_flag (hz : ∀ z ∈ xs, 0 ≤ z ∧ z ≤ 255) : Cod xs (iF xs) (fun on => formN on.toNat) (fun _ => True) (fun _ => True) where
 stop r hr := by
  by_cases h : r.2 = 0
  ·have h2 : r.1.2 ≠ 0 := fun hh => hr ⟨h, hh⟩
   simp only [iF, if_pos h, rNum_stop h2]
  ·simp only [iF, if_neg h]
 pos r hr := by
  by_cases h : r.2 = 0
  ·simp only [iF, if_pos h]
   exact ⟨(rNum_pos xs r.1 1 hz hr (by decide)).1, trivial⟩
  ·simp only [iF, if_neg h]
   exact ⟨hr, trivial⟩
 sound r hr hg := by
  by_cases h : r.2 = 0
  ·simp only [iF, if_pos h] at hg ⊢
   obtain ⟨h1, n, hv, hn, _, hd, _⟩ := rNum_sound (v := (rNum xs r.1 1).1) (k := (rNum xs r.1 1).2.1) hz (Prod.ext rfl (Prod.ext rfl hg.2))
   refine ⟨⟨h, h1⟩, ?_⟩
   rw [hv]
   rcases (show n = 0 ∨ n = 1 by omega) with rfl | rfl
   ·exact hd
   ·exact hd
  ·simp only [iF, if_neg h] at hg
   exact absurd hg.1 h
 ahead c a rest r hp hat := by
  simp only [iF, if_pos hat.1]
  rcases num_ahead (c := c) (z := (a.toNat : Int)) (most := 1) (by omega) (by cases a <;> decide) (by cases a <;> decide) (by rw [Int.toNat_natCast]; exact hat.2) with h | ⟨v, _, n, _⟩
  ·exact Or.inl h
  ·refine Or.inr ⟨?_, hat.1, n⟩
   rw [v]; cases a <;> rfl
theorem rRaw_bytes {s : Nat × Int} (hz : ∀ z ∈ xs, 0 ≤ z ∧ z ≤ 255) (hs : s.1 ≤ xs.length) : (rRaw xs s 32).2.1 ≤ xs.length ∧ ((rRaw xs s 32).1.length ≤ 32 ∧ ∀ z ∈ (rRaw xs s 32).1, 0 ≤ z ∧ z ≤ 255) := by
 have hp := rNum_pos xs s 32 hz hs (by decide)
 simp only [rRaw]
 split
 ·exact ⟨hs, by simp⟩
 ·split
  ·exact ⟨hp.1, by simp⟩
  ·split
   ·exact ⟨hs, by simp⟩
   ·rename_i h1 h2 h3
    refine ⟨?_, ?_, fun z hz' => hz z (List.mem_of_mem_drop (List.mem_of_mem_take hz'))⟩
    ·simp only
     omega
    ·simp only [List.length_take]
     omega
theorem cod_raw (hz : ∀ z ∈ xs, 0 ≤ z ∧ z ≤ 255) : Cod xs (iR xs) rawN (fun b => b.length ≤ 32) (fun b => b.length ≤ 32 ∧ ∀ z ∈ b, 0 ≤ z ∧ z ≤ 255) where
 stop r hr := by
  by_cases h : r.2 = 0
  ·have h2 : r.1.2 ≠ 0 := fun hh => hr ⟨h, hh⟩
   simp only [iR, if_pos h, rRaw_stop h2]
  ·simp only [iR, if_neg h]
 pos r hr := by
  by_cases h : r.2 = 0
  ·simp only [iR, if_pos h]
   exact rRaw_bytes hz hr
  ·simp only [iR, if_neg h]
   exact ⟨hr, by simp⟩
 sound r hr hg := by
  by_cases h : r.2 = 0
  ·simp only [iR, if_pos h] at hg ⊢
   obtain ⟨h1, _, hd, _, _⟩ := rRaw_sound (b := (rRaw xs r.1 32).1) (k := (rRaw xs r.1 32).2.1) hz hr (Prod.ext rfl (Prod.ext rfl hg.2))
   exact ⟨⟨h, h1⟩, hd⟩
  ·simp only [iR, if_neg h] at hg
   exact absurd hg.1 h
 ahead c a rest r hp hat := by
  simp only [iR, if_pos hat.1]
  rcases raw_ahead (c := c) (most := 32) (by omega) (by omega) hat.2 with h | ⟨v, _, n, _⟩
  ·exact Or.inl h
  ·exact Or.inr ⟨v, hat.1, n⟩
theorem pRead_z {s : Nat × Int} (h1 : (rPar xs s).2.2 = 0) (h2 : (pRead xs s).2 = 0) : (pRead xs s).1 = (rPar xs s).1 ∧ parR (rPar xs s).1 = true := by
 unfold pRead at h2 ⊢
 rw [if_neg (by simpa using h1)] at h2 ⊢
 split at h2
 ·rename_i h
  rw [if_pos h]
  exact ⟨rfl, h⟩
 ·cases h2
theorem cod_par (hz : ∀ z ∈ xs, 0 ≤ z ∧ z ≤ 255) : Cod xs (iP xs) encP (fun p => ParOk p ∧ parR p = true) ParOk where
 stop r hr := by
  by_cases h : r.2 = 0
  ·have h2 : r.1.2 ≠ 0 := fun hh => hr ⟨h, hh⟩
   simp only [iP, if_pos h, rPar_stop h2]
   rw [if_neg h2, ← h]
  ·simp only [iP, if_neg h]
 pos r hr := by
  by_cases h : r.2 = 0
  ·simp only [iP, if_pos h]
   have hp := rPar_ok hz hr
   refine ⟨hp.2, ?_⟩
   unfold pRead
   split
   ·exact zeroP_ok'
   ·split
    ·exact hp.1
    ·exact zeroP_ok'
  ·simp only [iP, if_neg h]
   exact ⟨hr, zeroP_ok'⟩
 sound r hr hg := by
  by_cases h : r.2 = 0
  ·simp only [iP, if_pos h] at hg ⊢
   obtain ⟨g1, g2⟩ := hg
   simp only at g1 g2
   rw [if_pos g2] at g1
   obtain ⟨e1, e2⟩ := pRead_z g2 g1
   obtain ⟨b1, b2, _⟩ := rPar_sound (k := (rPar xs r.1).2.1) hz hr (Prod.ext rfl g2)
   refine ⟨⟨h, b1⟩, ?_⟩
   rw [e1]
   exact b2
  ·simp only [iP, if_neg h] at hg
   exact absurd hg.1 h
 ahead c a rest r hp hat := by
  simp only [iP, if_pos hat.1]
  rcases par_ahead (c := c) hp.1 hp.2 hat.2 with h | ⟨v, z, n, _⟩
  ·exact Or.inl h
  ·refine Or.inr ⟨by rw [v], ?_, n⟩
   simp only
   rw [if_pos z, v]
def sq {α β : Type} (f : RS → α × RS) (g : α → RS → β × RS) (r : RS) : (α × β) × RS := (((f r).1, (g (f r).1 (f r).2).1), (g (f r).1 (f r).2).2)
def mp {α β : Type} (k : α → β) (f : RS → α × RS) (r : RS) : β × RS := (k (f r).1, (f r).2)
theorem cod_sq {α β : Type} {f : RS → α × RS} {g : α → RS → β × RS} {ef : α → List Int} {eg : α → β → List Int} {Pf Rf : α → Prop} {Pg Rg : α → β → Prop}
  (hf : Cod xs f ef Pf Rf) (hg : ∀ a, Cod xs (g a) (eg a) (Pg a) (Rg a)) : Cod xs (sq f g) (fun p => ef p.1 ++ eg p.1 p.2) (fun p => Pf p.1 ∧ Pg p.1 p.2) (fun p => Rf p.1 ∧ Rg p.1 p.2) where
 stop r hr := by
  have h1 := hf.stop r hr
  simp only [sq]
  rw [h1]
  exact (hg _).stop r hr
 pos r hr := by
  have h1 := hf.pos r hr
  have h2 := (hg (f r).1).pos (f r).2 h1.1
  exact ⟨h2.1, h1.2, h2.2⟩
 sound r hr hgd := by
  have h1 := hf.pos r hr
  obtain ⟨g1, e1⟩ := (hg (f r).1).sound (f r).2 h1.1 hgd
  obtain ⟨g2, e2⟩ := hf.sound r hr g1
  refine ⟨g2, ?_⟩
  simp only [sq, List.append_assoc]
  rw [e2, e1]
 ahead c a rest r hp hat := by
  simp only [List.append_assoc] at hat
  rcases hf.ahead c a.1 _ r hp.1 hat with ⟨hc, h5⟩ | ⟨v, hat2⟩
  ·refine Or.inl ⟨hc, ?_⟩
   simp only [sq]
   rw [(hg _).stop _ (bad50 h5)]
   exact h5
  ·have hp2 := hp.2
   rw [← v] at hp2 hat2
   rcases (hg (f r).1).ahead c a.2 rest (f r).2 hp2 hat2 with ⟨hc, h5⟩ | ⟨v2, hat3⟩
   ·exact Or.inl ⟨hc, h5⟩
   ·exact Or.inr ⟨Prod.ext v v2, hat3⟩
theorem cod_mp {α β : Type} {f : RS → α × RS} {e : α → List Int} {P R : α → Prop} (hf : Cod xs f e P R) (k : α → β) (j : β → α) {e' : β → List Int} {P' R' : β → Prop}
  (he : ∀ a, e' (k a) = e a) (hP : ∀ b, P' b → k (j b) = b ∧ P (j b)) (hR : ∀ a, R a → R' (k a)) : Cod xs (mp k f) e' P' R' where
 stop r hr := hf.stop r hr
 pos r hr := ⟨(hf.pos r hr).1, hR _ (hf.pos r hr).2⟩
 sound r hr hg := by
  obtain ⟨h1, h2⟩ := hf.sound r hr hg
  refine ⟨h1, ?_⟩
  simp only [mp]
  rw [he]
  exact h2
 ahead c b rest r hp hat := by
  obtain ⟨h1, h2⟩ := hP b hp
  have h3 : e' b = e (j b) := by rw [← he, h1]
  rw [h3] at hat
  rcases hf.ahead c (j b) rest r h2 hat with h | ⟨v, hat2⟩
  ·exact Or.inl h
  ·refine Or.inr ⟨?_, hat2⟩
   simp only [mp]
   rw [v, h1]
def lpR {α : Type} (f : RS → α × RS) : Nat → RS → List α × RS
 | 0, r => ([], r)
 | n + 1, r => if Gd r then ((f r).1 :: (lpR f n (f r).2).1, (lpR f n (f r).2).2) else ([], r)
theorem lpR_bad {α : Type} {f : RS → α × RS} {r : RS} (h : ¬ Gd r) : ∀ n, lpR f n r = ([], r)
 | 0 => rfl
 | n + 1 => by rw [lpR, if_neg h]
theorem lpR_len {α : Type} {f : RS → α × RS} : ∀ (n : Nat) (r : RS), Gd (lpR f n r).2 → (lpR f n r).1.length = n
 | 0, r, _ => rfl
 | n + 1, r, h => by
  by_cases g : Gd r
  ·rw [lpR, if_pos g] at h ⊢
   have := lpR_len n _ h
   simp [this]
  ·rw [lpR, if_neg g] at h
   exact absurd h g
theorem cod_lp {α : Type} {f : RS → α × RS} {e : α → List Int} {P R : α → Prop} (hf : Cod xs f e P R) : ∀ n, Cod xs (lpR f n) (fun l => l.flatMap e) (fun l => l.length = n ∧ ∀ x ∈ l, P x) (fun l => l.length ≤ n ∧ ∀ x ∈ l, R x)
 | 0 => {
  stop := fun r _ => rfl
  pos := fun r hr => ⟨hr, by simp [lpR], by simp [lpR]⟩
  sound := fun r hr hg => ⟨hg, by simp [lpR]⟩
  ahead := fun c a rest r hp hat => by
   have : a = [] := List.eq_nil_of_length_eq_zero hp.1
   subst this
   exact Or.inr ⟨rfl, by simpa [lpR] using hat⟩ }
 | n + 1 => {
  stop := fun r hr => by rw [lpR_bad hr]
  pos := fun r hr => by
   by_cases g : Gd r
   ·rw [lpR, if_pos g]
    have h1 := hf.pos r hr
    have h2 := (cod_lp hf n).pos _ h1.1
    refine ⟨h2.1, ?_, fun x hx => ?_⟩
    ·have := h2.2.1
     simp only [List.length_cons]; omega
    ·rcases List.mem_cons.1 hx with rfl | hx
     ·exact h1.2
     ·exact h2.2.2 x hx
   ·rw [lpR, if_neg g]
    exact ⟨hr, by simp, by simp⟩
  sound := fun r hr hg => by
   by_cases g : Gd r
   ·rw [lpR, if_pos g] at hg ⊢
    have h1 := hf.pos r hr
    obtain ⟨g1, e1⟩ := (cod_lp hf n).sound _ h1.1 hg
    obtain ⟨_, e2⟩ := hf.sound r hr g1
    refine ⟨g, ?_⟩
    simp only [List.flatMap_cons, List.append_assoc]
    rw [e2, e1]
   ·rw [lpR, if_neg g] at hg
    exact absurd hg g
  ahead := fun c a rest r hp hat => by
   rcases hat.gd with g | ⟨hc, h5⟩
   ·rw [lpR, if_pos g]
    cases a with
    | nil => cases hp.1
    | cons x l =>
     simp only [List.flatMap_cons, List.append_assoc] at hat
     rcases hf.ahead c x _ r (hp.2 x (by simp)) hat with ⟨hc, h5⟩ | ⟨v, hat2⟩
     ·refine Or.inl ⟨hc, ?_⟩
      simp only
      rw [lpR_bad (bad50 h5)]
      exact h5
     ·rcases (cod_lp hf n).ahead c l rest (f r).2 ⟨by simpa using hp.1, fun y hy => hp.2 y (by simp [hy])⟩ hat2 with h | ⟨v2, hat3⟩
      ·exact Or.inl h
      ·refine Or.inr ⟨?_, hat3⟩
       simp only [v, v2]
   ·refine Or.inl ⟨hc, ?_⟩
    rw [lpR_bad (bad50 h5)]
    exact h5 }
def lsR {α : Type} (xs : List Int) (f : RS → α × RS) (r : RS) : List α × RS := lpR f (iN xs 131072 r).1.toNat (iN xs 131072 r).2
theorem cod_ls (hz : ∀ z ∈ xs, 0 ≤ z ∧ z ≤ 255) {α : Type} {f : RS → α × RS} {e : α → List Int} {P R : α → Prop} (hf : Cod xs f e P R) : Cod xs (lsR xs f) (fun l => formN l.length ++ l.flatMap e) (fun l => l.length ≤ 131072 ∧ ∀ x ∈ l, P x) (fun l => l.length ≤ 131072 ∧ ∀ x ∈ l, R x) where
 stop r hr := by
  have h1 := (cod_num hz (most := 131072) (by decide) (by decide)).stop r hr
  unfold lsR
  rw [h1, lpR_bad hr]
 pos r hr := by
  have h1 := (cod_num hz (most := 131072) (by decide) (by decide)).pos r hr
  have h2 := (cod_lp hf (iN xs 131072 r).1.toNat).pos _ h1.1
  exact ⟨h2.1, by have := h2.2.1; have := h1.2; unfold lsR; omega, h2.2.2⟩
 sound r hr hg := by
  have h1 := (cod_num hz (most := 131072) (by decide) (by decide)).pos r hr
  obtain ⟨g1, e1⟩ := (cod_lp hf (iN xs 131072 r).1.toNat).sound _ h1.1 hg
  obtain ⟨g2, e2⟩ := (cod_num hz (most := 131072) (by decide) (by decide)).sound r hr g1
  refine ⟨g2, ?_⟩
  have hl := lpR_len _ _ hg
  unfold lsR
  rw [hl, List.append_assoc, e2, e1, numEnc]
 ahead c a rest r hp hat := by
  simp only [List.append_assoc] at hat
  have hat' : At c xs r (numEnc (a.length : Int) ++ (a.flatMap e ++ rest)) := by rw [numEnc, Int.toNat_natCast]; exact hat
  rcases (cod_num hz (most := 131072) (by decide) (by decide)).ahead c _ _ r ⟨by omega, by omega⟩ hat' with ⟨hc, h5⟩ | ⟨v, hat2⟩
  ·refine Or.inl ⟨hc, ?_⟩
   unfold lsR
   rw [lpR_bad (bad50 h5)]
   exact h5
  ·unfold lsR
   have hv : (iN xs 131072 r).1.toNat = a.length := by rw [v, Int.toNat_natCast]
   rw [hv]
   exact (cod_lp hf a.length).ahead c a rest _ ⟨rfl, hp.2⟩ hat2
theorem iN_bad {r : RS} (h : ¬ Gd r) (most : Int) : iN xs most r = (0, r) := by
 by_cases c : r.2 = 0
 ·have h2 : r.1.2 ≠ 0 := fun hh => h ⟨c, hh⟩
  simp only [iN, if_pos c, rNum_stop h2]
 ·simp only [iN, if_neg c]
theorem iF_bad {r : RS} (h : ¬ Gd r) : iF xs r = (false, r) := by
 by_cases c : r.2 = 0
 ·have h2 : r.1.2 ≠ 0 := fun hh => h ⟨c, hh⟩
  simp only [iF, if_pos c, rNum_stop h2]
  rfl
 ·simp only [iF, if_neg c]
theorem iR_bad {r : RS} (h : ¬ Gd r) : iR xs r = ([], r) := by
 by_cases c : r.2 = 0
 ·have h2 : r.1.2 ≠ 0 := fun hh => h ⟨c, hh⟩
  simp only [iR, if_pos c, rRaw_stop h2]
 ·simp only [iR, if_neg c]
theorem iP_bad {r : RS} (h : ¬ Gd r) : iP xs r = (zeroP, r) := by
 by_cases c : r.2 = 0
 ·have h2 : r.1.2 ≠ 0 := fun hh => h ⟨c, hh⟩
  have h3 : (pRead xs r.1).1 = zeroP := by
   unfold pRead
   rw [rPar_stop h2, if_pos h2]
  simp only [iP, if_pos c, rPar_stop h2, h3, if_neg h2]
  rw [← c]
 ·simp only [iP, if_neg c]
theorem set_self {cs : List Value} {o : Nat} {v : Value} (h : cs[o]? = some v) : cs.set o v = cs := by
 apply List.ext_getElem?
 intro i
 rw [List.getElem?_set]
 split
 ·rename_i e
  subst e
  rw [h]
  have := (List.getElem?_eq_some_iff.1 h).1
  simp [this]
 ·rfl
end
end Go.X
set_option maxRecDepth 4000
namespace Go.X
open Go.RowKit Go.Bl
abbrev i64 (xs : List Int) := iN xs 18446744073709551615
abbrev i31 (xs : List Int) := iN xs 2147483647
def w64 (z : Int) : Prop := 0 ≤ z ∧ z ≤ 18446744073709551615
def w31 (z : Int) : Prop := 0 ≤ z ∧ z ≤ 2147483647
section
variable {xs : List Int}
theorem cod_64 (hz : ∀ z ∈ xs, 0 ≤ z ∧ z ≤ 255) : Cod xs (i64 xs) numEnc w64 w64 := cod_num hz (by decide) (by decide)
theorem cod_31 (hz : ∀ z ∈ xs, 0 ≤ z ∧ z ≤ 255) : Cod xs (i31 xs) numEnc w31 w31 := cod_num hz (by decide) (by decide)
def rdMem (xs : List Int) : RS → MemD × RS := mp (fun p => ⟨p.1, p.2.1, p.2.2.1, p.2.2.2.1, p.2.2.2.2.1, p.2.2.2.2.2⟩)
 (sq (i64 xs) fun _ => sq (i64 xs) fun _ => sq (i64 xs) fun _ => sq (i31 xs) fun _ => sq (i31 xs) fun _ => i31 xs)
def MemP (m : MemD) : Prop := w64 m.bal ∧ w64 m.eff ∧ w64 m.score ∧ w31 m.streak ∧ w31 m.owner ∧ w31 m.status
theorem cod_mem (hz : ∀ z ∈ xs, 0 ≤ z ∧ z ≤ 255) : Cod xs (rdMem xs) memEnc MemP MemP :=
 cod_mp (cod_sq (cod_64 hz) fun _ => cod_sq (cod_64 hz) fun _ => cod_sq (cod_64 hz) fun _ => cod_sq (cod_31 hz) fun _ => cod_sq (cod_31 hz) fun _ => cod_31 hz) _
  (fun (m : MemD) => (m.bal, m.eff, m.score, m.streak, m.owner, m.status)) (fun a => by simp [memEnc, numEnc]) (fun b hb => ⟨rfl, hb⟩) (fun a ha => ha)
theorem MemP.ok {m : MemD} (h : MemP m) : MemOk m := by
 obtain ⟨h1, h2, h3, h4, h5, h6⟩ := h
 unfold w64 w31 at *
 refine ⟨fun z hz => ?_, fun z hz => ?_⟩
 ·simp only [List.mem_cons, List.not_mem_nil, or_false] at hz
  rcases hz with rfl | rfl | rfl <;> assumption
 ·simp only [List.mem_cons, List.not_mem_nil, or_false] at hz
  rcases hz with rfl | rfl | rfl <;> omega
def rdDep (xs : List Int) : RS → DepD × RS := mp (fun p => ⟨p.1, p.2.1, p.2.2.1, p.2.2.2⟩) (sq (i31 xs) fun _ => sq (i31 xs) fun _ => sq (i64 xs) fun _ => iF xs)
def DepP (d : DepD) : Prop := w31 d.acct ∧ w31 d.mem ∧ w64 d.amt ∧ True
theorem cod_dep (hz : ∀ z ∈ xs, 0 ≤ z ∧ z ≤ 255) : Cod xs (rdDep xs) depEnc DepP DepP :=
 cod_mp (cod_sq (cod_31 hz) fun _ => cod_sq (cod_31 hz) fun _ => cod_sq (cod_64 hz) fun _ => cod_flag hz) _
  (fun (m : DepD) => (m.acct, m.mem, m.amt, m.new)) (fun a => by simp [depEnc, numEnc]) (fun b hb => ⟨rfl, hb⟩) (fun a ha => ha)
theorem DepP.ok {d : DepD} (h : DepP d) : DepOk d := by
 obtain ⟨h1, h2, h3, _⟩ := h
 unfold w64 w31 at *
 refine ⟨h3, fun z hz => ?_⟩
 simp only [List.mem_cons, List.not_mem_nil, or_false] at hz
 rcases hz with rfl | rfl <;> omega
def rdDue (xs : List Int) : RS → DueD × RS := mp (fun p => ⟨p.1, p.2.1, p.2.2⟩) (sq (i31 xs) fun _ => sq (i31 xs) fun _ => i64 xs)
def DueP (d : DueD) : Prop := w31 d.acct ∧ w31 d.at' ∧ w64 d.amt
theorem cod_due (hz : ∀ z ∈ xs, 0 ≤ z ∧ z ≤ 255) : Cod xs (rdDue xs) dueEnc DueP DueP :=
 cod_mp (cod_sq (cod_31 hz) fun _ => cod_sq (cod_31 hz) fun _ => cod_64 hz) _
  (fun (m : DueD) => (m.acct, m.at', m.amt)) (fun a => by simp [dueEnc, numEnc]) (fun b hb => ⟨rfl, hb⟩) (fun a ha => ha)
theorem DueP.ok {d : DueD} (h : DueP d) : DueOk d := by
 obtain ⟨h1, h2, h3⟩ := h
 unfold w64 w31 at *
 refine ⟨h3, fun z hz => ?_⟩
 simp only [List.mem_cons, List.not_mem_nil, or_false] at hz
 rcases hz with rfl | rfl <;> omega
def iPw (xs : List Int) (w : Int) (r : RS) : ParD × RS := if w = 1 then iP xs r else (zeroP, r)
theorem cod_pw (hz : ∀ z ∈ xs, 0 ≤ z ∧ z ≤ 255) (w : Int) : Cod xs (iPw xs w) (fun p => if w = 1 then encP p else []) (fun p => if w = 1 then ParOk p ∧ parR p = true else p = zeroP) ParOk := by
 by_cases c : w = 1
 ·have := cod_par hz
  have e : iPw xs w = iP xs := by funext r; rw [iPw, if_pos c]
  rw [e]
  simp only [if_pos c]
  exact this
 ·have e : iPw xs w = fun r => (zeroP, r) := by funext r; rw [iPw, if_neg c]
  rw [e]
  simp only [if_neg c]
  exact ⟨fun _ _ => rfl, fun r hr => ⟨hr, zeroP_ok'⟩, fun r hr hg => ⟨hg, rfl⟩, fun c a rest r hp hat => Or.inr ⟨hp.symm, hat⟩⟩
def bitP (b : List Int) : Prop := b.length ≤ 32
def bitR (b : List Int) : Prop := b.length ≤ 32 ∧ ∀ z ∈ b, 0 ≤ z ∧ z ≤ 255
def rdMot (xs : List Int) : RS → MotD × RS := mp (fun p => ⟨p.1, p.2.1, p.2.2.1, p.2.2.2.1, p.2.2.2.2.1, p.2.2.2.2.2.1, p.2.2.2.2.2.2.1, p.2.2.2.2.2.2.2.1, p.2.2.2.2.2.2.2.2.1, p.2.2.2.2.2.2.2.2.2⟩)
 (sq (i31 xs) fun _ => sq (i31 xs) fun w => sq (iPw xs w) fun _ => sq (i31 xs) fun _ => sq (i64 xs) fun _ => sq (i31 xs) fun _ => sq (i31 xs) fun _ => sq (i31 xs) fun _ => sq (iR xs) fun _ => iR xs)
def MotP (m : MotD) : Prop := w31 m.acct ∧ w31 m.what ∧ (if m.what = 1 then ParOk m.par ∧ parR m.par = true else m.par = zeroP) ∧ w31 m.to ∧ w64 m.amt ∧ w31 m.ends ∧ w31 m.due ∧ w31 m.state ∧ bitP m.yes ∧ bitP m.no
def MotR (m : MotD) : Prop := w31 m.acct ∧ w31 m.what ∧ ParOk m.par ∧ w31 m.to ∧ w64 m.amt ∧ w31 m.ends ∧ w31 m.due ∧ w31 m.state ∧ bitR m.yes ∧ bitR m.no
theorem cod_mot (hz : ∀ z ∈ xs, 0 ≤ z ∧ z ≤ 255) : Cod xs (rdMot xs) motEnc MotP MotR :=
 cod_mp (cod_sq (cod_31 hz) fun _ => cod_sq (cod_31 hz) fun w => cod_sq (cod_pw hz w) fun _ => cod_sq (cod_31 hz) fun _ => cod_sq (cod_64 hz) fun _ => cod_sq (cod_31 hz) fun _ => cod_sq (cod_31 hz) fun _ => cod_sq (cod_31 hz) fun _ => cod_sq (cod_raw hz) fun _ => cod_raw hz) _
  (fun (m : MotD) => (m.acct, m.what, m.par, m.to, m.amt, m.ends, m.due, m.state, m.yes, m.no)) (fun a => by simp [motEnc, numEnc]) (fun b hb => ⟨rfl, hb⟩) (fun a ha => ha)
theorem MotR.ok {d : MotD} (h : MotR d) : MotOk d := by
 obtain ⟨h1, h2, h3, h4, h5, h6, h7, h8, _⟩ := h
 unfold w64 w31 at *
 refine ⟨h5, fun z hz => ?_, h3⟩
 simp only [List.mem_cons, List.not_mem_nil, or_false] at hz
 rcases hz with rfl | rfl | rfl | rfl | rfl | rfl <;> omega
def lsP {α : Type} (P : α → Prop) (l : List α) : Prop := l.length ≤ 131072 ∧ ∀ x ∈ l, P x
def rdS (xs : List Int) : RS → StD × RS :=
  mp (fun p => ⟨p.1, p.2.1, p.2.2.1, p.2.2.2.1, p.2.2.2.2.1, p.2.2.2.2.2.1, p.2.2.2.2.2.2.1, p.2.2.2.2.2.2.2.1, p.2.2.2.2.2.2.2.2.1, p.2.2.2.2.2.2.2.2.2.1, p.2.2.2.2.2.2.2.2.2.2.1, p.2.2.2.2.2.2.2.2.2.2.2.1, p.2.2.2.2.2.2.2.2.2.2.2.2.1, p.2.2.2.2.2.2.2.2.2.2.2.2.2.1, p.2.2.2.2.2.2.2.2.2.2.2.2.2.2.1, p.2.2.2.2.2.2.2.2.2.2.2.2.2.2.2.1, p.2.2.2.2.2.2.2.2.2.2.2.2.2.2.2.2.1, p.2.2.2.2.2.2.2.2.2.2.2.2.2.2.2.2.2⟩)
  (sq (iP xs) fun _ => sq (i64 xs) fun _ => sq (i64 xs) fun _ => sq (i64 xs) fun _ => sq (i64 xs) fun _ => sq (i64 xs) fun _ => sq (i31 xs) fun _ => sq (i31 xs) fun _ => sq (iF xs) fun _ =>
   sq (lsR xs (i64 xs)) fun _ => sq (lsR xs (rdMem xs)) fun _ => sq (lsR xs (i31 xs)) fun _ => sq (lsR xs (i31 xs)) fun _ => sq (lsR xs (rdDep xs)) fun _ => sq (lsR xs (rdDue xs)) fun _ => sq (lsR xs (rdMot xs)) fun _ => sq (iR xs) fun _ => lsR xs (iR xs))
def StP (s : StD) : Prop := (ParOk s.par ∧ parR s.par = true) ∧ w64 s.most ∧ w64 s.gen ∧ w64 s.mint ∧ w64 s.burn ∧ w64 s.treas ∧ w31 s.ep ∧ w31 s.calm ∧ True ∧ lsP w64 s.purses ∧ lsP MemP s.members ∧ lsP w31 s.entry ∧ lsP w31 s.exit ∧ lsP DepP s.pool ∧ lsP DueP s.dues ∧ lsP MotP s.motions ∧ bitP s.marks ∧ lsP bitP s.ring
def StR (s : StD) : Prop := ParOk s.par ∧ w64 s.most ∧ w64 s.gen ∧ w64 s.mint ∧ w64 s.burn ∧ w64 s.treas ∧ w31 s.ep ∧ w31 s.calm ∧ True ∧ lsP w64 s.purses ∧ lsP MemP s.members ∧ lsP w31 s.entry ∧ lsP w31 s.exit ∧ lsP DepP s.pool ∧ lsP DueP s.dues ∧ lsP MotR s.motions ∧ bitR s.marks ∧ lsP bitR s.ring
theorem flat5 (a b c d e : Int) : flatN [a, b, c, d, e] = numEnc a ++ (numEnc b ++ (numEnc c ++ (numEnc d ++ numEnc e))) := by simp [flatN, numEnc]
theorem cod_st (hz : ∀ z ∈ xs, 0 ≤ z ∧ z ≤ 255) : Cod xs (rdS xs) encS StP StR :=
 cod_mp (cod_sq (cod_par hz) fun _ => cod_sq (cod_64 hz) fun _ => cod_sq (cod_64 hz) fun _ => cod_sq (cod_64 hz) fun _ => cod_sq (cod_64 hz) fun _ => cod_sq (cod_64 hz) fun _ => cod_sq (cod_31 hz) fun _ => cod_sq (cod_31 hz) fun _ => cod_sq (cod_flag hz) fun _ =>
  cod_sq (cod_ls hz (cod_64 hz)) fun _ => cod_sq (cod_ls hz (cod_mem hz)) fun _ => cod_sq (cod_ls hz (cod_31 hz)) fun _ => cod_sq (cod_ls hz (cod_31 hz)) fun _ => cod_sq (cod_ls hz (cod_dep hz)) fun _ => cod_sq (cod_ls hz (cod_due hz)) fun _ => cod_sq (cod_ls hz (cod_mot hz)) fun _ => cod_sq (cod_raw hz) fun _ => cod_ls hz (cod_raw hz)) _
  (fun (s : StD) => (s.par, s.most, s.gen, s.mint, s.burn, s.treas, s.ep, s.calm, s.emer, s.purses, s.members, s.entry, s.exit, s.pool, s.dues, s.motions, s.marks, s.ring))
  (fun a => by simp only [encS, flat5, numEnc, List.append_assoc]) (fun b hb => ⟨rfl, hb⟩) (fun a ha => ha)
def dErr (xs : List Int) (q : StD × RS) : Int := if q.2.1.2 ≠ 0 then q.2.1.2 else if q.2.2 ≠ 0 then q.2.2 else if rDone xs q.2.1 ≠ 0 then rDone xs q.2.1 else if fitsS q.1 then 0 else 291
def decS (xs : List Int) : StD × Int := (if dErr xs (rdS xs ((0, 0), 0)) = 0 then (rdS xs ((0, 0), 0)).1 else zeroS, dErr xs (rdS xs ((0, 0), 0)))
theorem decS_enc {s : StD} (hp : StP s) (hf : fitsS s = true) (hb : ∀ z ∈ encS s, 0 ≤ z ∧ z ≤ 255) : decS (encS s) = (s, 0) := by
 rcases (cod_st hb).ahead false s [] ((0, 0), 0) hp ⟨rfl, by simp⟩ with ⟨h, _⟩ | ⟨v, h1, h2, h3⟩
 ·cases h
 ·have hl : (encS s).length ≤ (rdS (encS s) ((0, 0), 0)).2.1.1 := by
   have := congrArg List.length h3
   simp only [List.length_drop, List.length_nil] at this
   omega
  have e : dErr (encS s) (rdS (encS s) ((0, 0), 0)) = 0 := by
   unfold dErr
   rw [if_neg (by simpa using h2), if_neg (by simpa using h1)]
   have hd : rDone (encS s) (rdS (encS s) ((0, 0), 0)).2.1 = 0 := by
    unfold rDone
    rw [if_neg (by rintro ⟨_, h⟩; omega), h2]
   rw [if_neg (by simpa using hd), v, if_pos hf]
  unfold decS
  rw [if_pos e, e, v]
end
theorem stp_of {h : PH} {v : SV} {s : StD} (hs : IsSt h v s) (fd : s.dues.length ≤ 131072) (hf : fitsS s = true) : StP s := by
 simp only [fitsS, Bool.and_eq_true] at hf
 obtain ⟨⟨⟨⟨⟨⟨⟨⟨f1, f2⟩, f3⟩, f4⟩, f5⟩, f6⟩, f7⟩, f8⟩, f9⟩ := hf
 rw [wi_iff] at f2 f3
 simp only [membersB, Bool.and_eq_true, List.all_eq_true] at f5
 simp only [poolsB, Bool.and_eq_true, List.all_eq_true, duesB, dueB, List.mem_range] at f6
 simp only [motionsB, Bool.and_eq_true, List.all_eq_true] at f7
 rw [pursesB, Bool.and_eq_true, wi_iff] at f4
 simp only [marksB, rollB, Bool.and_eq_true, decide_eq_true_eq, List.all_eq_true] at f8
 have ll1 := row_len f5.1.2
 have ll2 := row_len f5.2
 have f51 := f5.1.1.1
 rw [decide_eq_true_eq] at f51
 have f61 := f6.1.1
 rw [decide_eq_true_eq] at f61
 have f71 := f7.1
 rw [decide_eq_true_eq] at f71
 have f81 := chk_len f8.1.1.2
 have f82 := f8.1.1.1
 have hst : 0 ≤ s.par.streak ∧ s.par.streak ≤ 64 := by
  have := f1
  simp only [parR, othersB, List.all_cons, List.all_nil, Bool.and_eq_true, id] at this
  have h1 : wi s.par.streak 0 64 = true := by simp_all
  exact wi_iff.1 h1
 obtain ⟨qm, qm1, qm2, qm3⟩ := hs.t
 have mok : ∀ m ∈ s.motions, MotOk m := fun m hx => by
  rw [← qm2] at hx
  obtain ⟨q, hq, rfl⟩ := List.mem_map.1 hx
  exact (qm3 q hq).ok
 have uu := hs.ok.u
 refine ⟨⟨hs.ok.p, f1⟩, uu _ (by simp), uu _ (by simp), uu _ (by simp), uu _ (by simp), uu _ (by simp), ⟨f2.1, by omega⟩, ⟨f3.1, by omega⟩, trivial, ⟨by omega, fun x hx => by have := hs.p.2 x hx; rwa [show IntKind.u64.min = 0 by decide, show IntKind.u64.max = 18446744073709551615 by decide] at this⟩, ⟨by omega, fun x hx => ?_⟩,
  ⟨by omega, fun x hx => ?_⟩, ⟨by omega, fun x hx => ?_⟩, ⟨by omega, fun x hx => ?_⟩, ⟨fd, fun x hx => ?_⟩, ⟨by omega, fun x hx => ?_⟩, by unfold bitP; omega, ⟨by omega, fun x hx => by have := chk_len (f8.1.2 x hx); unfold bitP; omega⟩⟩
 ·have h1 := (f5.1.1.2 x hx).1
  have u := (hs.mo x hx).u
  simp only [mfitsB, Bool.and_eq_true, decide_eq_true_eq, stdL, trimM, List.cons.injEq, and_true, true_and] at h1
  obtain ⟨⟨⟨h2, h3⟩, h4⟩, h5⟩ := h1
  refine ⟨u _ (by simp), u _ (by simp), u _ (by simp), ⟨by omega, by omega⟩, ⟨h2, by omega⟩, ?_⟩
  unfold w31
  unfold shapeB at h5
  split at h5
  ·omega
  ·split at h5
   ·omega
   ·split at h5
    ·omega
    ·cases h5
 ·have := row_pos f5.1.2 x hx
  exact ⟨this.1, by omega⟩
 ·have := row_pos f5.2 x hx
  exact ⟨this.1, by omega⟩
 ·have h1 := f6.1.2 x hx
  have u := (hs.oo x hx).a
  simp only [dep1B, depB, Bool.and_eq_true] at h1
  have h2 := wi_iff.1 h1.1.1.1.1.1.1
  have h3 := wi_iff.1 h1.1.1.1.1.1.2
  exact ⟨⟨h2.1, by omega⟩, ⟨h3.1, by omega⟩, u, trivial⟩
 ·have u := (hs.dd x hx).a
  obtain ⟨k, hk, rfl⟩ := List.mem_iff_getElem.1 hx
  have h1 := (f6.2 k hk).1.1
  rw [gr_lt hk] at h1
  simp only [due1B, Bool.and_eq_true, acctB] at h1
  have h2 := wi_iff.1 h1.1.1.1
  have h3 := wi_iff.1 h1.1.1.2
  exact ⟨⟨h2.1, by omega⟩, h3, u⟩
 ·have h1 := (f7.2 x hx).1.1
  have ok := mok x hx
  simp only [motFits, motHead, motMid, Bool.and_eq_true, decide_eq_true_eq] at h1
  obtain ⟨⟨⟨⟨⟨⟨⟨a1, a2⟩, a3⟩, a4⟩, ⟨b1, b2⟩, b3⟩, cy⟩, cn⟩, h2⟩ := h1
  have fy := chk_len cy
  have fn := chk_len cn
  have a1 := wi_iff.1 a1
  have a2 := wi_iff.1 a2
  have a3 := wi_iff.1 a3
  have a4 := wi_iff.1 a4
  have b1 := wi_iff.1 b1
  have b2 := wi_iff.1 b2
  refine ⟨⟨a1.1, by omega⟩, ⟨by omega, by omega⟩, ?_, ⟨a2.1, by omega⟩, ok.a, b1, b2, ⟨by omega, by omega⟩, by unfold bitP; omega, by unfold bitP; omega⟩
  by_cases c : x.what = 1
  ·rw [if_pos c] at h2 ⊢
   exact ⟨ok.p, h2⟩
  ·rw [if_neg c] at h2 ⊢
   simpa using h2
open Go.RowKit Go.Proofs Go.Bl
variable {L : Own} {h : PH} {K : PK}
abbrev penR (bx : Nat) : Value := .iface 104 (.pointer (some ⟨bx, 0, none⟩))
abbrev irO (bx br : Nat) (v : Value) (r : RS) (L : Own) : Own := ⟨br, 214, [v, .int .i64 r.1.2, .int .i64 r.1.1], 3⟩ :: ⟨bx, 108, [.pointer (some ⟨br, 0, none⟩), .int .i64 r.2], 2⟩ :: L
theorem penR_num (bx : Nat) (W : World) : (method (Tryz.prog.types.size + Made.depth) 104 (.pointer (some ⟨bx, 0, none⟩)) "bullion/image.num").run Tryz.prog W = .ok (272, .pointer (some ⟨bx, 0, none⟩)) W := by kernel_rfl
theorem penR_int (bx : Nat) (W : World) : (method (Tryz.prog.types.size + Made.depth) 104 (.pointer (some ⟨bx, 0, none⟩)) "bullion/image.int").run Tryz.prog W = .ok (271, .pointer (some ⟨bx, 0, none⟩)) W := by kernel_rfl
theorem penR_flag (bx : Nat) (W : World) : (method (Tryz.prog.types.size + Made.depth) 104 (.pointer (some ⟨bx, 0, none⟩)) "bullion/image.flag").run Tryz.prog W = .ok (270, .pointer (some ⟨bx, 0, none⟩)) W := by kernel_rfl
theorem penR_raw (bx : Nat) (W : World) : (method (Tryz.prog.types.size + Made.depth) 104 (.pointer (some ⟨bx, 0, none⟩)) "bullion/image.raw").run Tryz.prog W = .ok (274, .pointer (some ⟨bx, 0, none⟩)) W := by kernel_rfl
theorem penR_params (bx : Nat) (W : World) : (method (Tryz.prog.types.size + Made.depth) 104 (.pointer (some ⟨bx, 0, none⟩)) "bullion/image.params").run Tryz.prog W = .ok (273, .pointer (some ⟨bx, 0, none⟩)) W := by kernel_rfl
theorem penR_count (bx : Nat) (W : World) : (method (Tryz.prog.types.size + Made.depth) 104 (.pointer (some ⟨bx, 0, none⟩)) "bullion/image.count").run Tryz.prog W = .ok (269, .pointer (some ⟨bx, 0, none⟩)) W := by kernel_rfl
theorem pnR_num (bx : Nat) (K : Value → Prop) (t : Tok K) : xNC Tryz.prog (.func (.method "bullion/image.num") #[penR bx] #[]) K t = K (.func (.method "bullion/image.num") #[penR bx] #[]) := xNC_meth (fun W => by kernel_rfl) K t
theorem pnR_int (bx : Nat) (K : Value → Prop) (t : Tok K) : xNC Tryz.prog (.func (.method "bullion/image.int") #[penR bx] #[]) K t = K (.func (.method "bullion/image.int") #[penR bx] #[]) := xNC_meth (fun W => by kernel_rfl) K t
theorem pnR_flag (bx : Nat) (K : Value → Prop) (t : Tok K) : xNC Tryz.prog (.func (.method "bullion/image.flag") #[penR bx] #[]) K t = K (.func (.method "bullion/image.flag") #[penR bx] #[]) := xNC_meth (fun W => by kernel_rfl) K t
theorem pnR_raw (bx : Nat) (K : Value → Prop) (t : Tok K) : xNC Tryz.prog (.func (.method "bullion/image.raw") #[penR bx] #[]) K t = K (.func (.method "bullion/image.raw") #[penR bx] #[]) := xNC_meth (fun W => by kernel_rfl) K t
theorem pnR_params (bx : Nat) (K : Value → Prop) (t : Tok K) : xNC Tryz.prog (.func (.method "bullion/image.params") #[penR bx] #[]) K t = K (.func (.method "bullion/image.params") #[penR bx] #[]) := xNC_meth (fun W => by kernel_rfl) K t
theorem pnR_count (bx : Nat) (K : Value → Prop) (t : Tok K) : xNC Tryz.prog (.func (.method "bullion/image.count") #[penR bx] #[]) K t = K (.func (.method "bullion/image.count") #[penR bx] #[]) := xNC_meth (fun W => by kernel_rfl) K t
theorem igood_r {bx br : Nat} {v : Value} {r : RS} (hk : K (.bool (decide (r.2 = 0) && decide (r.1.2 = 0))) (irO bx br v r L) h) :
  Spec Tryz.prog 167 [.pointer (some ⟨bx, 0, none⟩)] (irO bx br v r L) h K := by
 obtain ⟨s, e⟩ := r
 simp only [irO] at hk ⊢
 refine x_enterA Tryz.func167 rfl (rs := [_]) rfl rfl mixed (by kernel_rfl) rfl rfl fun ap nd => ?_
 obtain ⟨ap1, ap2, _⟩ := ap
 simp only [Nd, Apart] at nd
 by_cases c : e = 0
 ·subst c
  simp -dsimp -implicitDefEqProofs (disch := first|with_reducible assumption|omega) [go_sem]
  refine rerr_any (s := s) ?_
  simp -dsimp -implicitDefEqProofs (disch := first|with_reducible assumption|omega) [go_sem]
  exact fin_here (by simpa using hk)
 ·simp -dsimp -implicitDefEqProofs (disch := first|with_reducible assumption|omega) [go_sem]
  exact fin_here (by simpa [c] using hk)
theorem inum_r {bx br b ty cp o : Nat} {v : Value} {xs : List Int} {r : RS} {cs : List Value} (hx : Ints h .u8 v xs) (hs : r.1.1 ≤ xs.length) (hty : ty ≠ 4294967295) (ho : cs[o]? = some (.int .u64 0))
  (hk : K (.tuple #[]) (irO bx br v (i64 xs r).2 (⟨b, ty, cs.set o (.int .u64 (i64 xs r).1), cp⟩ :: L)) h) :
  Spec Tryz.prog 272 [.pointer (some ⟨bx, 0, none⟩), .pointer (some ⟨b, o, none⟩)] (irO bx br v r (⟨b, ty, cs, cp⟩ :: L)) h K := by
 have hoc := (List.getElem?_eq_some_iff.1 ho).1
 by_cases g : Gd r
 ·obtain ⟨⟨j, w⟩, e⟩ := r
  obtain ⟨g1, g2⟩ := g
  simp only at g1 g2
  subst g1 g2
  have e0 : i64 xs ((j, 0), 0) = ((rNum xs (j, 0) 18446744073709551615).1, ((rNum xs (j, 0) 18446744073709551615).2, 0)) := by simp only [i64, iN, iF, if_true]
  rw [e0] at hk
  simp only [irO] at hs hk ⊢
  refine x_enterA Tryz.func272 rfl (rs := []) rfl rfl mixed (by kernel_rfl) rfl rfl fun ap nd => ?_
  obtain ⟨ap1, ap2, ap3, _⟩ := ap
  simp only [Nd, Apart] at nd
  simp -dsimp -implicitDefEqProofs (disch := first|with_reducible assumption|omega) [go_sem]
  refine igood_r (r := ((j, 0), 0)) ?_
  simp only [irO]
  simp -dsimp -implicitDefEqProofs (disch := first|with_reducible assumption|omega) [go_sem]
  refine rnum_any (s := (j, 0)) hx hs ?_
  simp -dsimp -implicitDefEqProofs (disch := first|with_reducible assumption|omega) [go_sem]
  refine ⟨by omega, ?_⟩
  exact fin_here hk
 ·have e0 : i64 xs r = (0, r) := iN_bad (xs := xs) g _
  rw [e0] at hk
  simp only at hk
  rw [set_self ho] at hk
  obtain ⟨⟨j, w⟩, e⟩ := r
  simp only [irO] at hs hk ⊢
  refine x_enterA Tryz.func272 rfl (rs := []) rfl rfl mixed (by kernel_rfl) rfl rfl fun ap nd => ?_
  simp -dsimp -implicitDefEqProofs (disch := first|with_reducible assumption|omega) [go_sem]
  refine igood_r (r := ((j, w), e)) ?_
  have gg : (decide (e = 0) && decide (w = 0)) = false := by
   cases hh : (decide (e = 0) && decide (w = 0)) with
   | false => rfl
   | true =>
    simp only [Bool.and_eq_true, decide_eq_true_eq] at hh
    exact absurd ⟨hh.1, hh.2⟩ g
  simp only [irO, gg]
  simp -dsimp -implicitDefEqProofs (disch := first|with_reducible assumption|omega) [go_sem]
  exact fin_here hk
theorem iint_r {bx br b ty cp o : Nat} {v : Value} {xs : List Int} {r : RS} {cs : List Value} (hx : Ints h .u8 v xs) (hs : r.1.1 ≤ xs.length) (hty : ty ≠ 4294967295) (ho : cs[o]? = some (.int .i64 0))
  (hk : K (.tuple #[]) (irO bx br v (i31 xs r).2 (⟨b, ty, cs.set o (.int .i64 (i31 xs r).1), cp⟩ :: L)) h) :
  Spec Tryz.prog 271 [.pointer (some ⟨bx, 0, none⟩), .pointer (some ⟨b, o, none⟩)] (irO bx br v r (⟨b, ty, cs, cp⟩ :: L)) h K := by
 have hoc := (List.getElem?_eq_some_iff.1 ho).1
 by_cases g : Gd r
 ·obtain ⟨⟨j, w⟩, e⟩ := r
  obtain ⟨g1, g2⟩ := g
  simp only at g1 g2
  subst g1 g2
  have e0 : i31 xs ((j, 0), 0) = ((rNum xs (j, 0) 2147483647).1, ((rNum xs (j, 0) 2147483647).2, 0)) := by simp only [i31, iN, iF, if_true]
  rw [e0] at hk
  simp only [irO] at hs hk ⊢
  refine x_enterA Tryz.func271 rfl (rs := []) rfl rfl mixed (by kernel_rfl) rfl rfl fun ap nd => ?_
  obtain ⟨ap1, ap2, ap3, _⟩ := ap
  simp only [Nd, Apart] at nd
  simp -dsimp -implicitDefEqProofs (disch := first|with_reducible assumption|omega) [go_sem]
  refine igood_r (r := ((j, 0), 0)) ?_
  simp only [irO]
  simp -dsimp -implicitDefEqProofs (disch := first|with_reducible assumption|omega) [go_sem]
  refine rint_any (s := (j, 0)) hx hs (by decide) (by decide) ?_
  simp -dsimp -implicitDefEqProofs (disch := first|with_reducible assumption|omega) [go_sem]
  refine ⟨by omega, ?_⟩
  exact fin_here hk
 ·have e0 : i31 xs r = (0, r) := iN_bad (xs := xs) g _
  rw [e0] at hk
  simp only at hk
  rw [set_self ho] at hk
  obtain ⟨⟨j, w⟩, e⟩ := r
  simp only [irO] at hs hk ⊢
  refine x_enterA Tryz.func271 rfl (rs := []) rfl rfl mixed (by kernel_rfl) rfl rfl fun ap nd => ?_
  simp -dsimp -implicitDefEqProofs (disch := first|with_reducible assumption|omega) [go_sem]
  refine igood_r (r := ((j, w), e)) ?_
  have gg : (decide (e = 0) && decide (w = 0)) = false := by
   cases hh : (decide (e = 0) && decide (w = 0)) with
   | false => rfl
   | true =>
    simp only [Bool.and_eq_true, decide_eq_true_eq] at hh
    exact absurd ⟨hh.1, hh.2⟩ g
  simp only [irO, gg]
  simp -dsimp -implicitDefEqProofs (disch := first|with_reducible assumption|omega) [go_sem]
  exact fin_here hk
theorem iflag_r {bx br b ty cp o : Nat} {v : Value} {xs : List Int} {r : RS} {cs : List Value} (hx : Ints h .u8 v xs) (hs : r.1.1 ≤ xs.length) (hty : ty ≠ 4294967295) (ho : cs[o]? = some (.bool false))
  (hk : K (.tuple #[]) (irO bx br v (iF xs r).2 (⟨b, ty, cs.set o (.bool (iF xs r).1), cp⟩ :: L)) h) :
  Spec Tryz.prog 270 [.pointer (some ⟨bx, 0, none⟩), .pointer (some ⟨b, o, none⟩)] (irO bx br v r (⟨b, ty, cs, cp⟩ :: L)) h K := by
 have hoc := (List.getElem?_eq_some_iff.1 ho).1
 by_cases g : Gd r
 ·obtain ⟨⟨j, w⟩, e⟩ := r
  obtain ⟨g1, g2⟩ := g
  simp only at g1 g2
  subst g1 g2
  have e0 : iF xs ((j, 0), 0) = (decide ((rNum xs (j, 0) 1).1 = 1), ((rNum xs (j, 0) 1).2, 0)) := by simp only [iF, iN, iF, if_true]
  rw [e0] at hk
  simp only [irO] at hs hk ⊢
  refine x_enterA Tryz.func270 rfl (rs := []) rfl rfl mixed (by kernel_rfl) rfl rfl fun ap nd => ?_
  obtain ⟨ap1, ap2, ap3, _⟩ := ap
  simp only [Nd, Apart] at nd
  simp -dsimp -implicitDefEqProofs (disch := first|with_reducible assumption|omega) [go_sem]
  refine igood_r (r := ((j, 0), 0)) ?_
  simp only [irO]
  simp -dsimp -implicitDefEqProofs (disch := first|with_reducible assumption|omega) [go_sem]
  refine rflag_any (s := (j, 0)) hx hs ?_
  simp -dsimp -implicitDefEqProofs (disch := first|with_reducible assumption|omega) [go_sem]
  refine ⟨by omega, ?_⟩
  exact fin_here hk
 ·have e0 := iF_bad (xs := xs) g
  rw [e0] at hk
  simp only at hk
  rw [set_self ho] at hk
  obtain ⟨⟨j, w⟩, e⟩ := r
  simp only [irO] at hs hk ⊢
  refine x_enterA Tryz.func270 rfl (rs := []) rfl rfl mixed (by kernel_rfl) rfl rfl fun ap nd => ?_
  simp -dsimp -implicitDefEqProofs (disch := first|with_reducible assumption|omega) [go_sem]
  refine igood_r (r := ((j, w), e)) ?_
  have gg : (decide (e = 0) && decide (w = 0)) = false := by
   cases hh : (decide (e = 0) && decide (w = 0)) with
   | false => rfl
   | true =>
    simp only [Bool.and_eq_true, decide_eq_true_eq] at hh
    exact absurd ⟨hh.1, hh.2⟩ g
  simp only [irO, gg]
  simp -dsimp -implicitDefEqProofs (disch := first|with_reducible assumption|omega) [go_sem]
  exact fin_here hk
theorem iraw_r {bx br b ty cp o : Nat} {v : Value} {xs : List Int} {r : RS} {cs : List Value} (hx : Ints h .u8 v xs) (hs : r.1.1 ≤ xs.length) (hty : ty ≠ 4294967295) (ho : cs[o]? = some (.slice none 0 0))
  (hk : ∀ h' w, PH.le h h' → Ints h' .u8 w (iR xs r).1 → K (.tuple #[]) (irO bx br v (iR xs r).2 (⟨b, ty, cs.set o w, cp⟩ :: L)) h') :
  Spec Tryz.prog 274 [.pointer (some ⟨bx, 0, none⟩), .pointer (some ⟨b, o, none⟩)] (irO bx br v r (⟨b, ty, cs, cp⟩ :: L)) h K := by
 have hoc := (List.getElem?_eq_some_iff.1 ho).1
 by_cases g : Gd r
 ·obtain ⟨⟨j, w⟩, e⟩ := r
  obtain ⟨g1, g2⟩ := g
  simp only at g1 g2
  subst g1 g2
  have e0 : iR xs ((j, 0), 0) = ((rRaw xs (j, 0) 32).1, ((rRaw xs (j, 0) 32).2, 0)) := by simp only [iR, if_true]
  rw [e0] at hk
  simp only [irO] at hs hk ⊢
  refine x_enterA Tryz.func274 rfl (rs := []) rfl rfl mixed (by kernel_rfl) rfl rfl fun ap nd => ?_
  obtain ⟨ap1, ap2, ap3, _⟩ := ap
  simp only [Nd, Apart] at nd
  simp -dsimp -implicitDefEqProofs (disch := first|with_reducible assumption|omega) [go_sem]
  refine igood_r (r := ((j, 0), 0)) ?_
  simp only [irO]
  simp -dsimp -implicitDefEqProofs (disch := first|with_reducible assumption|omega) [go_sem]
  refine rraw_any (s := (j, 0)) hx hs (by decide) (by decide) fun h1 w le1 i1 => ?_
  have hk2 := hk h1 w le1 i1
  obtain ⟨wa, wc, rfl, _⟩ := i1.open
  simp -dsimp -implicitDefEqProofs (disch := first|with_reducible assumption|omega) [go_sem]
  refine ⟨by omega, ?_⟩
  exact fin_here hk2
 ·have e0 := iR_bad (xs := xs) g
  rw [e0] at hk
  simp only at hk
  have hk2 := hk h (.slice none 0 0) (PH.le_refl _) (nil_ints h .u8)
  rw [set_self ho] at hk2
  obtain ⟨⟨j, w⟩, e⟩ := r
  simp only [irO] at hs hk2 ⊢
  refine x_enterA Tryz.func274 rfl (rs := []) rfl rfl mixed (by kernel_rfl) rfl rfl fun ap nd => ?_
  simp -dsimp -implicitDefEqProofs (disch := first|with_reducible assumption|omega) [go_sem]
  refine igood_r (r := ((j, w), e)) ?_
  have gg : (decide (e = 0) && decide (w = 0)) = false := by
   cases hh : (decide (e = 0) && decide (w = 0)) with
   | false => rfl
   | true =>
    simp only [Bool.and_eq_true, decide_eq_true_eq] at hh
    exact absurd ⟨hh.1, hh.2⟩ g
  simp only [irO, gg]
  simp -dsimp -implicitDefEqProofs (disch := first|with_reducible assumption|omega) [go_sem]
  exact fin_here hk2
theorem icount_r {bx br : Nat} {v : Value} {xs : List Int} {r : RS} (n : Int) (hx : Ints h .u8 v xs) (hs : r.1.1 ≤ xs.length)
  (hk : K (.int .i64 (iN xs 131072 r).1) (irO bx br v (iN xs 131072 r).2 L) h) :
  Spec Tryz.prog 269 [.pointer (some ⟨bx, 0, none⟩), .int .i64 n] (irO bx br v r L) h K := by
 by_cases g : Gd r
 ·obtain ⟨⟨j, w⟩, e⟩ := r
  obtain ⟨g1, g2⟩ := g
  simp only at g1 g2
  subst g1 g2
  have e0 : iN xs 131072 ((j, 0), 0) = ((rNum xs (j, 0) 131072).1, ((rNum xs (j, 0) 131072).2, 0)) := by simp only [iN, if_true]
  rw [e0] at hk
  simp only [irO] at hs hk ⊢
  refine x_enterA Tryz.func269 rfl (rs := [_]) rfl rfl mixed (by kernel_rfl) rfl rfl fun ap nd => ?_
  obtain ⟨ap1, ap2, _⟩ := ap
  simp only [Nd, Apart] at nd
  simp -dsimp -implicitDefEqProofs (disch := first|with_reducible assumption|omega) [go_sem]
  refine igood_r (r := ((j, 0), 0)) ?_
  simp only [irO]
  simp -dsimp -implicitDefEqProofs (disch := first|with_reducible assumption|omega) [go_sem]
  refine rint_any (s := (j, 0)) hx hs (by decide) (by decide) ?_
  simp -dsimp -implicitDefEqProofs (disch := first|with_reducible assumption|omega) [go_sem]
  exact fin_here hk
 ·have e0 : iN xs 131072 r = (0, r) := iN_bad (xs := xs) g _
  rw [e0] at hk
  simp only at hk
  obtain ⟨⟨j, w⟩, e⟩ := r
  simp only [irO] at hs hk ⊢
  refine x_enterA Tryz.func269 rfl (rs := [_]) rfl rfl mixed (by kernel_rfl) rfl rfl fun ap nd => ?_
  simp -dsimp -implicitDefEqProofs (disch := first|with_reducible assumption|omega) [go_sem]
  refine igood_r (r := ((j, w), e)) ?_
  have gg : (decide (e = 0) && decide (w = 0)) = false := by
   cases hh : (decide (e = 0) && decide (w = 0)) with
   | false => rfl
   | true =>
    simp only [Bool.and_eq_true, decide_eq_true_eq] at hh
    exact absurd ⟨hh.1, hh.2⟩ g
  simp only [irO, gg]
  simp -dsimp -implicitDefEqProofs (disch := first|with_reducible assumption|omega) [go_sem]
  exact fin_here hk
theorem iparams_r {bx br b ty cp o : Nat} {v : Value} {xs : List Int} {r : RS} {cs : List Value} (hx : Ints h .u8 v xs) (hs : r.1.1 ≤ xs.length) (hty : ty ≠ 4294967295) (hoc : o + 24 ≤ cs.length) (ho : wr cs o (parC zeroP) = cs)
  (hk : ∀ h', PH.le h h' → K (.tuple #[]) (irO bx br v (iP xs r).2 (⟨b, ty, wr cs o (parC (iP xs r).1), cp⟩ :: L)) h') :
  Spec Tryz.prog 273 [.pointer (some ⟨bx, 0, none⟩), .pointer (some ⟨b, o, none⟩)] (irO bx br v r (⟨b, ty, cs, cp⟩ :: L)) h K := by
 by_cases g : Gd r
 ·obtain ⟨⟨j, w⟩, e⟩ := r
  obtain ⟨g1, g2⟩ := g
  simp only at g1 g2
  subst g1 g2
  have e0 : iP xs ((j, 0), 0) = ((pRead xs (j, 0)).1, ((rPar xs (j, 0)).2, if (rPar xs (j, 0)).2.2 = 0 then (pRead xs (j, 0)).2 else 0)) := by simp only [iP, if_true]
  rw [e0] at hk
  simp only [irO] at hs hk ⊢
  refine x_enterA Tryz.func273 rfl (rs := []) rfl rfl mixed (by kernel_rfl) rfl rfl fun ap nd => ?_
  obtain ⟨aq1, aq2, aq3, _⟩ := ap
  simp only [Nd, Apart] at nd
  have nd0 := nd
  clear nd
  simp -dsimp -implicitDefEqProofs (disch := first|with_reducible assumption|omega) [go_sem]
  refine igood_r (r := ((j, 0), 0)) ?_
  simp only [irO]
  simp -dsimp -implicitDefEqProofs (disch := first|with_reducible assumption|omega) [go_sem]
  refine Spec.apn (pread_any (s := (j, 0)) hx hs fun h1 le1 ap nd => ?_)
  obtain ⟨ap1, ap2, ap3, _⟩ := ap
  simp only [Nd, Apart] at nd
  have hk2 := hk h1 le1
  generalize pRead xs (j, 0) = pe at hk2 ⊢
  generalize (rPar xs (j, 0)).2 = s2 at hk2 ap1 ⊢
  obtain ⟨p, e⟩ := pe
  obtain ⟨j2, w2⟩ := s2
  simp only at hk2 ap1 ⊢
  simp -dsimp -implicitDefEqProofs (disch := first|with_reducible assumption|omega) [go_sem]
  refine xnew fun b4 n_b4 h_b4 => ?_
  try simp only [Apart] at n_b4
  simp -dsimp -implicitDefEqProofs (disch := first|with_reducible assumption|omega) [go_sem]
  by_cases c1 : e = 0
  ·have hk3 : K (.tuple #[]) (irO bx br v ((j2, w2), 0) (⟨b, ty, wr cs o (parC p), cp⟩ :: L)) h1 := by
    rw [show (if w2 = 0 then e else 0) = 0 by rw [c1]; simp] at hk2
    exact hk2
   subst c1
   simp -dsimp -implicitDefEqProofs (disch := first|with_reducible assumption|omega) [go_sem]
   refine ⟨by omega, ?_⟩
   exact fin_tail (fin_here hk3)
  ·by_cases c2 : w2 = 0
   ·subst c2
    rw [if_pos rfl] at hk2
    simp -dsimp -implicitDefEqProofs (disch := first|with_reducible assumption|omega) [go_sem]
    refine call_p1 ?_
    refine rerr_any (s := (j2, 0)) ?_
    simp -dsimp -implicitDefEqProofs (disch := first|with_reducible assumption|omega) [go_sem]
    refine ⟨by omega, ?_⟩
    exact fin_perm (List.Perm.swap _ _ _) (fin_tail (fin_here hk2))
   ·rw [if_neg c2] at hk2
    simp -dsimp -implicitDefEqProofs (disch := first|with_reducible assumption|omega) [go_sem]
    refine call_p1 ?_
    refine rerr_any (s := (j2, w2)) ?_
    simp -dsimp -implicitDefEqProofs (disch := first|with_reducible assumption|omega) [go_sem]
    refine ⟨by omega, ?_⟩
    exact fin_perm (List.Perm.swap _ _ _) (fin_tail (fin_here hk2))
 ·have e0 := iP_bad (xs := xs) g
  rw [e0] at hk
  simp only at hk
  have hk2 := hk h (PH.le_refl _)
  rw [ho] at hk2
  obtain ⟨⟨j, w⟩, e⟩ := r
  simp only [irO] at hs hk2 ⊢
  refine x_enterA Tryz.func273 rfl (rs := []) rfl rfl mixed (by kernel_rfl) rfl rfl fun ap nd => ?_
  simp -dsimp -implicitDefEqProofs (disch := first|with_reducible assumption|omega) [go_sem]
  refine igood_r (r := ((j, w), e)) ?_
  have gg : (decide (e = 0) && decide (w = 0)) = false := by
   cases hh : (decide (e = 0) && decide (w = 0)) with
   | false => rfl
   | true =>
    simp only [Bool.and_eq_true, decide_eq_true_eq] at hh
    exact absurd ⟨hh.1, hh.2⟩ g
  simp only [irO, gg]
  simp -dsimp -implicitDefEqProofs (disch := first|with_reducible assumption|omega) [go_sem]
  exact fin_here hk2
end Go.X

/- Plain feeds, there and back: in whatever order the chunks of a text come; no program in sight. Conditions: none. -/
import Derived.Test.YtbobjcapmfpmkaaRD
set_option linter.unusedVariables false
set_option linter.unusedSimpArgs false
namespace Go.X
open Go.RowKit Go.Bl
theorem piece_eq (text : List Int) (z i : Nat) : piece text z i = (text.drop (i * z)).take z := by
  rw [piece, List.take_eq_take_iff]
  simp only [List.length_drop]
  omega
theorem flat_piece (text : List Int) (z : Nat) : ∀ n, (List.range n).flatMap (piece text z) = text.take (n * z)
  | 0 => by simp
  | n + 1 => by
    rw [List.range_succ, List.flatMap_append, flat_piece text z n, List.flatMap_cons, List.flatMap_nil, List.append_nil, piece_eq, Nat.add_mul, Nat.one_mul, List.take_add]
theorem all_covers {len z : Nat} (hz : 1 ≤ z) : len ≤ allN len z * z := by
  have h1 := Nat.div_add_mod len z
  have h2 := Nat.mod_lt len hz
  have h3 := allN_ref (len := len) hz
  generalize len / z = q at h1 h3
  generalize len % z = r at h1 h2 h3
  rw [h3]
  split
  · rw [Nat.add_mul, Nat.one_mul, Nat.mul_comm q z]; omega
  · rw [Nat.mul_comm q z]; omega
theorem flat_all (text : List Int) {z : Nat} (hz : 1 ≤ z) : (List.range (allN text.length z)).flatMap (piece text z) = text := by
  rw [flat_piece, List.take_of_length_le (all_covers hz)]
/-- what those weigh that are met -/
def sumM : List Bool → List Nat → Nat
  | b :: bs, w :: ws => (if b then w else 0) + sumM bs ws
  | _, _ => 0
def cntM : List Bool → Nat
  | [] => 0
  | b :: bs => (if b then 1 else 0) + cntM bs
theorem sumM_le : ∀ (M : List Bool) (ws : List Nat), sumM M ws ≤ ws.sum
  | [], _ => by simp [sumM]
  | _ :: _, [] => by simp [sumM]
  | b :: M, w :: ws => by
    have := sumM_le M ws
    simp only [sumM, List.sum_cons]
    split <;> omega
theorem cntM_le : ∀ (M : List Bool), cntM M ≤ M.length
  | [] => by simp [cntM]
  | b :: M => by
    have := cntM_le M
    simp only [cntM, List.length_cons]
    split <;> omega
theorem sumM_all : ∀ (M : List Bool) (ws : List Nat), M.length = ws.length → cntM M = M.length → sumM M ws = ws.sum
  | [], [], _, _ => rfl
  | [], _ :: _, h, _ => by simp at h
  | _ :: _, [], h, _ => by simp at h
  | b :: M, w :: ws, h, hc => by
    have h1 := cntM_le M
    simp only [cntM, List.length_cons] at hc h
    cases b with
    | false => simp at hc; omega
    | true =>
      simp only [if_true] at hc
      have := sumM_all M ws (by omega) (by omega)
      simp [sumM, this]
theorem cnt_all : ∀ (M : List Bool), (∀ i, i < M.length → M[i]? = some true) → cntM M = M.length
  | [], _ => rfl
  | b :: M, h => by
    have h0 := h 0 (by simp)
    simp at h0
    subst h0
    have := cnt_all M fun i hi => by have := h (i + 1) (by simpa using hi); simpa using this
    simp [cntM, this]
    omega
theorem sumM_set : ∀ (M : List Bool) (ws : List Nat) (i w : Nat), M[i]? = some false → ws[i]? = some w → sumM (M.set i true) ws = sumM M ws + w
  | [], _, _, _, h, _ => by simp at h
  | _ :: _, [], _, _, _, h => by simp at h
  | b :: M, x :: ws, 0, w, h, h2 => by
    simp at h h2
    subst h; subst h2
    simp [sumM]
    omega
  | b :: M, x :: ws, i + 1, w, h, h2 => by
    have := sumM_set M ws i w (by simpa using h) (by simpa using h2)
    simp only [List.set_cons_succ, sumM, this]
    omega
theorem cntM_set : ∀ (M : List Bool) (i : Nat), M[i]? = some false → cntM (M.set i true) = cntM M + 1
  | [], _, h => by simp at h
  | b :: M, 0, h => by
    simp at h
    subst h
    simp [cntM]
    omega
  | b :: M, i + 1, h => by
    have := cntM_set M i (by simpa using h)
    simp only [List.set_cons_succ, cntM, this]
    omega
/-- what all pieces weigh -/
def wsP (text : List Int) (z : Nat) : List Nat := (List.range (allN text.length z)).map fun i => (piece text z i).length
theorem wsP_sum (text : List Int) {z : Nat} (hz : 1 ≤ z) : (wsP text z).sum = text.length := by
  have h := congrArg List.length (flat_all text hz)
  rw [List.length_flatMap] at h
  exact h
theorem wsP_len (text : List Int) (z : Nat) : (wsP text z).length = allN text.length z := by simp [wsP]
theorem rNum_formZ {xs rest : List Int} {k : Nat} {z most : Int} (h : xs.drop k = formN z.toNat ++ rest) (h0 : 0 ≤ z) (hm : z ≤ most) (hn : z < 18446744073709551616) : rNum xs (k, 0) most = (z, (k + (formN z.toNat).length, 0)) ∧ xs.drop (k + (formN z.toNat).length) = rest := by
  have := rNum_form (most := most) h (by omega) (by omega)
  rwa [Int.toNat_of_nonneg h0] at this
/-- a chunk's bytes are read as it is -/
theorem parse_form {id : Int} {text : List Int} {z i : Nat} (hid : 0 ≤ id ∧ id ≤ 18446744073709551615) (hl : text.length ≤ 131072) (hz : 1 ≤ z) (hz2 : z ≤ 4096) (hi : i < allN text.length z) (hal : allN text.length z ≤ 131072) : parseC (formC (chunkAt id text z i)) = (chunkAt id text z i, 0) := by
  obtain ⟨c, hc⟩ : ∃ c, c = chunkAt id text z i := ⟨_, rfl⟩
  have hpl := piece_len text z i
  obtain ⟨xs, hx⟩ : ∃ xs, xs = formC c := ⟨_, rfl⟩
  have e0 : xs.drop 0 = formN c.feed.toNat ++ (formN c.place.toNat ++ (formN c.all.toNat ++ (formN c.bytes.toNat ++ (rawN c.data ++ [])))) := by rw [hx]; simp [formC]
  have f0 : c.feed = id := by rw [hc]; rfl
  have p0 : c.place = (i : Int) := by rw [hc]; rfl
  have a0 : c.all = (allN text.length z : Int) := by rw [hc]; rfl
  have b0 : c.bytes = (text.length : Int) := by rw [hc]; rfl
  have d0 : c.data = piece text z i := by rw [hc]; rfl
  obtain ⟨n1, r1⟩ := rNum_formZ (most := 18446744073709551615) (z := c.feed) e0 (by omega) (by omega) (by omega)
  obtain ⟨n2, r2⟩ := rNum_formZ (most := 131072) (z := c.place) r1 (by omega) (by omega) (by omega)
  obtain ⟨n3, r3⟩ := rNum_formZ (most := 131072) (z := c.all) r2 (by omega) (by omega) (by omega)
  obtain ⟨n4, r4⟩ := rNum_formZ (most := 131072) (z := c.bytes) r3 (by omega) (by omega) (by omega)
  obtain ⟨n5, r5⟩ := rRaw_form (most := 4096) r4 (by rw [d0]; omega) (by rw [d0]; omega)
  rw [← hc, ← hx]
  simp only [parseC, n1, n2, n3, n4, n5]
  have hp := allN_pos text.length z
  rw [if_neg (by omega)]
  have hdone : ∀ k, xs.drop k = [] → rDone xs (k, 0) = 0 := fun k hk => by
    have := List.drop_eq_nil_iff.1 hk
    simp only [rDone]
    rw [if_neg (fun hh => by have h2 : k < xs.length := hh.2; omega)]
  rw [hdone _ r5, if_neg (by simp), if_neg (by omega)]
/-- what is so of an inbox that took just the chunks that are met -/
structure Took (id : Int) (text : List Int) (z : Nat) (M : List Bool) (s : InS) : Prop where
  len : M.length = allN text.length z
  got : ∀ i : Nat, M[i]? = some true → ∃ v, getT s.ts (i : Int) = some (v, piece text z i)
  non : ∀ i : Nat, M[i]? = some false → getT s.ts (i : Int) = none
  cnt : s.ts.length = cntM M
  hav : s.hav = sumM M (wsP text z)
  hd : s = zeroIn ∨ (s.feed = id ∧ s.all = allN text.length z ∧ s.bytes = text.length)
theorem getT_snoc : ∀ (ts : List (Int × QS)) (n m : Int) (q : QS), getT (ts ++ [(n, q)]) m = (getT ts m).or (if m = n then some q else none)
  | [], n, m, q => by simp [getT]
  | e :: ts, n, m, q => by
    simp only [List.cons_append, getT]
    split
    · simp
    · exact getT_snoc ts n m q
theorem took_zero (id : Int) (text : List Int) (z : Nat) : Took id text z (List.replicate (allN text.length z) false) zeroIn := by
  have hc : ∀ n, cntM (List.replicate n false) = 0 := fun n => by
    induction n with
    | zero => rfl
    | succ n ih => simp [List.replicate_succ, cntM, ih]
  have hs : ∀ n ws, sumM (List.replicate n false) ws = 0 := fun n => by
    induction n with
    | zero => intro ws; rfl
    | succ n ih =>
      intro ws
      cases ws with
      | nil => rfl
      | cons w ws => simp [List.replicate_succ, sumM, ih]
  refine ⟨by simp, fun i hi => ?_, fun i _ => rfl, by rw [hc]; rfl, by rw [hs]; rfl, Or.inl rfl⟩
  have := List.mem_of_getElem? hi
  simp [List.mem_replicate] at this
/-- a chunk that was met comes again -/
theorem took_twice {id : Int} {text : List Int} {z i : Nat} {M : List Bool} {s : InS} {xs : List Int} {dv : Value} (t : Took id text z M s) (hm : M[i]? = some true) (hp : parseC xs = (chunkAt id text z i, 0)) : addP s xs dv = (doneP s, 231, s) := by
  obtain ⟨v, hg⟩ := t.got i hm
  have hh : s.feed = id ∧ s.all = allN text.length z ∧ s.bytes = text.length := by
    rcases t.hd with h | h
    · rw [h] at hg; cases hg
    · exact h
  have hf : fitsP s (chunkAt id text z i) = 231 := by
    unfold fitsP
    rw [if_neg (by simp [chunkAt, hh.1, hh.2.1, hh.2.2])]
    have : getT s.ts (chunkAt id text z i).place = some (v, piece text z i) := hg
    rw [this]
    simp [chunkAt]
  simp [addP, hp, hf]
/-- a chunk that was not met is taken -/
theorem took_new {id : Int} {text : List Int} {z i : Nat} {M : List Bool} {s : InS} {xs : List Int} {dv : Value} (hz : 1 ≤ z) (t : Took id text z M s) (hm : M[i]? = some false) (hp : parseC xs = (chunkAt id text z i, 0)) :
    (addP s xs dv).2.1 = 0 ∧ Took id text z (M.set i true) (addP s xs dv).2.2 := by
  have hi : i < allN text.length z := by rw [← t.len]; exact (List.getElem?_eq_some_iff.1 hm).1
  have hw : (wsP text z)[i]? = some (piece text z i).length := by simp [wsP, hi]
  have hs := sumM_set M (wsP text z) i _ hm hw
  have hc := cntM_set M i hm
  have hle := sumM_le (M.set i true) (wsP text z)
  rw [wsP_sum text hz] at hle
  have hg := t.non i hm
  have hf : fitsP s (chunkAt id text z i) = 0 := by
    unfold fitsP
    have h1 : ¬ (0 < s.all ∧ ¬ ((chunkAt id text z i).feed = s.feed ∧ (chunkAt id text z i).all = s.all ∧ (chunkAt id text z i).bytes = s.bytes)) := by
      rcases t.hd with h | h
      · rw [h]; simp [zeroIn]
      · simp [chunkAt, h.1, h.2.1, h.2.2]
    rw [if_neg h1]
    have : getT s.ts (chunkAt id text z i).place = none := hg
    rw [this]
    simp only
    have hb : (chunkAt id text z i).bytes = (text.length : Int) := rfl
    have ha : (chunkAt id text z i).all = (allN text.length z : Int) := rfl
    have hd : (chunkAt id text z i).data = piece text z i := rfl
    rw [hb, ha, hd, t.hav, t.cnt]
    rw [if_neg]
    rintro (h | ⟨h, h2⟩)
    · omega
    · have hall : cntM (M.set i true) = (M.set i true).length := by rw [hc, List.length_set, t.len]; omega
      have := sumM_all (M.set i true) (wsP text z) (by rw [List.length_set, t.len, wsP_len]) hall
      rw [wsP_sum text hz] at this
      omega
  have ea : addP s xs dv = (doneP ⟨id, allN text.length z, text.length, s.hav + (piece text z i).length, s.ts ++ [((i : Int), (dv, piece text z i))]⟩, 0, ⟨id, allN text.length z, text.length, s.hav + (piece text z i).length, s.ts ++ [((i : Int), (dv, piece text z i))]⟩) := by
    simp only [addP, hp, if_true, hf]
    rw [if_neg (by simp)]
    rfl
  rw [ea]
  refine ⟨rfl, ⟨by rw [List.length_set]; exact t.len, fun j hj => ?_, fun j hj => ?_, ?_, ?_, Or.inr ⟨rfl, rfl, rfl⟩⟩⟩
  · simp only [getT_snoc]
    by_cases c : j = i
    · subst c
      rw [hg]
      exact ⟨dv, by simp⟩
    · rw [List.getElem?_set_ne (Ne.symm c)] at hj
      obtain ⟨v, hv⟩ := t.got j hj
      exact ⟨v, by rw [hv]; rfl⟩
  · simp only [getT_snoc]
    by_cases c : j = i
    · subst c
      rw [List.getElem?_set_self (by rw [t.len]; exact hi)] at hj
      cases hj
    · rw [List.getElem?_set_ne (Ne.symm c)] at hj
      rw [t.non j hj, if_neg (by omega)]
      rfl
  · simp only [List.length_append, List.length_singleton, hc, t.cnt]
  · simp only
    rw [hs, t.hav]
    omega
/-- a chunk of another feed, or none, is not taken -/
theorem took_other {id : Int} {text : List Int} {z : Nat} {M : List Bool} {s : InS} {xs : List Int} {dv : Value} (t : Took id text z M s) (hne : s.ts ≠ []) (ho : ¬ ((parseC xs).2 = 0 ∧ (parseC xs).1.feed = id)) : (addP s xs dv).2.1 ≠ 0 ∧ (addP s xs dv).2.2 = s := by
  have hh : s.feed = id ∧ s.all = allN text.length z ∧ s.bytes = text.length := by
    rcases t.hd with h | h
    · rw [h] at hne; exact absurd rfl hne
    · exact h
  by_cases c : (parseC xs).2 = 0
  · have hf : fitsP s (parseC xs).1 = 370 := by
      unfold fitsP
      have hp := allN_pos text.length z
      rw [if_pos ⟨by rw [hh.2.1]; omega, fun h => ho ⟨c, by rw [h.1, hh.1]⟩⟩]
    simp [addP, c, hf]
  · simp [addP, c]
theorem flatMap_eq {α β : Type} {f g : α → List β} : ∀ (l : List α), (∀ i ∈ l, f i = g i) → l.flatMap f = l.flatMap g
  | [], _ => rfl
  | a :: l, h => by
    rw [List.flatMap_cons, List.flatMap_cons, h a (by simp), flatMap_eq l fun i hi => h i (by simp [hi])]
/-- when all were met -/
theorem took_all {id : Int} {text : List Int} {z : Nat} {M : List Bool} {s : InS} (hz : 1 ≤ z) (t : Took id text z M s) (hall : ∀ i, i < M.length → M[i]? = some true) : doneP s = true ∧ s.all = allN text.length z ∧ txtP s (allN text.length z) = text := by
  have hp := allN_pos text.length z
  have hh : s.feed = id ∧ s.all = allN text.length z ∧ s.bytes = text.length := by
    rcases t.hd with h | h
    · obtain ⟨v, hv⟩ := t.got 0 (hall 0 (by rw [t.len]; omega))
      rw [h] at hv; cases hv
    · exact h
  refine ⟨?_, hh.2.1, ?_⟩
  · have := cnt_all M hall
    have h1 := hh.2.1
    have h2 := t.cnt
    have h3 := t.len
    simp only [doneP, Bool.and_eq_true, decide_eq_true_eq]
    omega
  · have e : txtP s (allN text.length z) = (List.range (allN text.length z)).flatMap (piece text z) := by
      unfold txtP
      refine flatMap_eq _ fun i hi => ?_
      obtain ⟨v, hv⟩ := t.got i (hall i (by rw [t.len]; exact List.mem_range.1 hi))
      rw [hv]; rfl
    rw [e, flat_all text hz]
end Go.X

/- Contracts of block.Encode, block.Decode. Conditions: the values read as lists of deeds, as bytes. -/
import Derived.Test.YtbobjcapmfpmkaaQB
import Derived.Test.YtbobjcapmfpmkaaPlainB
set_option linter.unusedVariables false
set_option linter.unusedSimpArgs false
namespace Go.X
open Go.RowKit Go.Proofs Go.Bl
variable {L : Own} {h : PH} {K : PK}
/-- how many are right ahead of the first one that isn't -/
def goodN (l : List DeedD) : Nat := (l.takeWhile rightD).length
/-- Encode's place and error -/
def bencA (l : List DeedD) : Int × Int := if 64 < l.length then (0, 3) else if goodN l < l.length then (goodN l, 80) else (0, 0)
theorem goodN_at : ∀ {l : List DeedD} {k : Nat} {d : DeedD}, (∀ j (hj : j < k) (hl : j < l.length), rightD l[j] = true) → l[k]? = some d → rightD d = false → goodN l = k
  | [], k, d, _, h, _ => by simp at h
  | x :: l, 0, d, _, h, hr => by
    simp at h; subst h
    simp [goodN, List.takeWhile_cons, hr]
  | x :: l, k + 1, d, hp, h, hr => by
    have h0 := hp 0 (by omega) (by simp)
    simp only [List.getElem_cons_zero] at h0
    have := goodN_at (l := l) (k := k) (d := d) (fun j hj hl => by have := hp (j + 1) (by omega) (by simpa using hl); simpa using this) (by simpa using h) hr
    simp only [goodN, List.takeWhile_cons, h0, if_true, List.length_cons] at this ⊢
    omega
theorem goodN_all : ∀ {l : List DeedD}, (∀ d ∈ l, rightD d = true) → goodN l = l.length
  | [], _ => rfl
  | x :: l, h => by
    have := goodN_all (l := l) fun d hd => h d (by simp [hd])
    simp only [goodN, List.takeWhile_cons, h x (by simp), if_true, List.length_cons] at this ⊢
    omega
theorem dl_take (l : List QD) (k : Nat) : dl (l.take k) = (dl l).take k := by simp [dl, List.map_take]
set_option maxHeartbeats 1600000 in
set_option maxRecDepth 20000 in
theorem dwrite_bad {bw : Nat} {o : Option (Nat × Nat)} {bs : List Int} {d : DeedD} (A : Own) (bv : Value) (hd : IsDeed h bv d) (hr : rightD d = false)
    (hk : ∀ h', PH.le h h' → K (.int .i64 80) (wO bw o (bs, 0) A L) h') :
    Spec Try.prog 48 [.pointer (some ⟨bw, 0, none⟩), deedV d bv] (wO bw o (bs, 0) A L) h K := by
  have ob := hd.i.open
  obtain ⟨x1, y1, rfl, _⟩ := ob
  refine x_enterA Try.func48 rfl (rs := [_]) rfl rfl mixed (by kernel_rfl) rfl rfl fun ap nd => ?_
  obtain ⟨ap1, _⟩ := ap
  simp only [wO, rO, dO, List.cons_append, List.nil_append]
  simp -dsimp -implicitDefEqProofs (disch := first | with_reducible assumption | omega) [go_sem]
  refine xnew fun b3 n_b3 h_b3 => ?_
  try simp only [Apart] at n_b3
  simp -dsimp -implicitDefEqProofs (disch := first | with_reducible assumption | omega) [go_sem]
  refine Spec.apn (dright_any _ hd fun h4 le4 ap nd => ?_)
  rw [hr]
  simp -dsimp -implicitDefEqProofs (disch := first | with_reducible assumption | omega) [go_sem]
  exact fin_tail (fin_here (hk h4 le4))
set_option maxHeartbeats 4000000 in
set_option maxRecDepth 20000 in
theorem benc_any {l : List QD} (v : Value) (hd0 : Deeds h v l) (hk : ∀ h' r, PH.le h h' → (if (bencA (dl l)).2 = 0 then Ints h' .u8 r (encB (dl l)) else r = .slice none 0 0) → K (.tuple #[r, .int .i64 (bencA (dl l)).1, .int .i64 (bencA (dl l)).2]) L h') :
    Spec Try.prog 59 [v] L h K := by
  obtain ⟨a, c, rfl, hc, hl, _, hd⟩ := hd0.open
  refine x_enter Try.func59 rfl (rs := [_, _, _]) rfl rfl mixed (by kernel_rfl) rfl rfl ?_
  simp -dsimp -implicitDefEqProofs (disch := first | with_reducible assumption | omega) [go_sem]
  by_cases c0 : (l.length : Int) > 64
  · have e : bencA (dl l) = (0, 3) := by rw [bencA, dl_len, if_pos (by omega)]
    rw [e] at hk
    simp -dsimp -implicitDefEqProofs (disch := first | with_reducible assumption | omega) [go_sem]
    exact fin_here (hk h _ (PH.le_refl _) (by simp))
  simp -dsimp -implicitDefEqProofs (disch := first | with_reducible assumption | omega) [go_sem]
  refine xnew fun bw n_bw h_bw => ?_
  try simp only [Apart] at n_bw
  simp -dsimp -implicitDefEqProofs (disch := first | with_reducible assumption | omega) [go_sem]
  refine Spec.apn (wint_ok (o := none) (bs := []) [] (l.length : Int) (by omega) (by omega) rfl (by simp) fun h2 o2 B2 le2 e2 k2 l2 ap nd => ?_)
  simp only [wO, List.nil_append, Ap] at ap
  obtain ⟨ap1, _⟩ := ap
  simp only [List.nil_append, Int.toNat_natCast, List.length_nil] at e2 l2
  simp only [wO, rO, dO, List.cons_append, List.nil_append]
  simp -dsimp -implicitDefEqProofs (disch := first | with_reducible assumption | omega) [go_sem]
  obtain ⟨B, hB⟩ : ∃ B : Nat → List Int, ∀ i, B i = formN l.length ++ encL ((dl l).take i) := ⟨_, fun _ => rfl⟩
  have e0 : B2 = B 0 := by rw [hB, e2]; simp [encL]
  rw [e0] at k2 ⊢
  refine xloop (γ := Nat × Option (Nat × Nat) × PH) (0, o2, h2)
    (fun s => s.1 ≤ l.length ∧ PH.le h2 s.2.2 ∧ okO s.2.1 (B s.1).length ∧ s.2.2 bw = noC ∧ ∀ d ∈ (dl l).take s.1, rightD d = true)
    (fun s => [(20, .int .i64 s.1), (19, .int .i64 l.length), (18, .slice a l.length c), (5, .pointer (some ⟨bw, 0, none⟩))])
    (fun s => wO bw s.2.1 (B s.1, 0) [] L) (fun s => s.2.2) (fun s => l.length - s.1) ?_ ?_ ?_ ?_
  · exact ⟨by simp, PH.le_refl _, k2, ap1, by simp⟩
  · simp [Ent, List.lookup, xEnv]
  · exact Drop.refl _ _
  rintro ⟨k, o, hh⟩ ⟨i1, i2, i3, i4, i5⟩
  simp only at i1 i2 i3 i4 i5 ⊢
  have hdk := hd.up (le2.trans i2)
  have hAll : AllR ((dl l).take k) := fun d hdm => by
    refine ⟨?_, i5 d hdm⟩
    obtain ⟨q, hq, rfl⟩ := List.mem_map.1 (List.mem_of_mem_take hdm)
    exact (hd.d q hq).ok
  have hBl : (B k).length ≤ 26000 := by
    have h1 := encL_len hAll
    rw [hB, List.length_append, formN_lt (by omega)]
    simp only [List.length_singleton]
    simp only [List.length_take, dl_len] at h1
    omega
  by_cases c1 : k < l.length
  · have hi := hdk.at c1
    obtain ⟨x1, y1, hv, _⟩ := hi.i.open
    simp only [wO, rO, dO, List.cons_append, List.nil_append]
    simp -dsimp -implicitDefEqProofs (disch := first | with_reducible assumption | omega) [go_sem, ↓idxD hdk]
    refine xnew fun b1 n_b1 h_b1 => ?_
    try simp only [Apart] at n_b1
    simp -dsimp -implicitDefEqProofs (disch := first | with_reducible assumption | omega) [go_sem, hv]
    rw [hv] at hi
    cases hr : rightD (gq l k).2 with
    | false =>
      refine call_p1 (Spec.apn (dwrite_bad (o := o) (bs := B k) [_] _ hi hr fun h4 le4 ap nd => ?_))
      simp only [wO, rO, dO, List.cons_append, List.nil_append]
      simp -dsimp -implicitDefEqProofs (disch := first | with_reducible assumption | omega) [go_sem]
      have hg : goodN (dl l) = k := goodN_at (fun j hj hlj => i5 _ (by rw [List.mem_take_iff_getElem]; exact ⟨j, by omega, rfl⟩)) (dl_gq c1) hr
      have e : bencA (dl l) = ((k : Int), 80) := by rw [bencA, dl_len, if_neg (by omega), hg, if_pos c1]
      rw [e] at hk
      exact fin_tail (fin_tail (fin_oent (fin_here (hk h4 _ (le2.trans (i2.trans le4)) (by simp)))))
    | true =>
      have et : B (k + 1) = B k ++ encD (gq l k).2 := by
        have h1 := dl_gq c1
        obtain ⟨h2, h3⟩ := List.getElem?_eq_some_iff.1 h1
        rw [hB, hB, List.take_succ_eq_append_getElem h2, h3, encL_app, List.append_assoc]
        simp [encL]
      refine call_p1 (Spec.apn (dwrite_any (o := o) (bs := B k) [_] _ hi hr i3 (by omega) fun h4 o4 le4 k4 ap nd => ?_))
      rw [← et] at k4 ap nd ⊢
      simp only [wO, List.cons_append, List.nil_append, Ap] at ap
      obtain ⟨u1, u2, _⟩ := ap
      simp only [wO, rO, dO, List.cons_append, List.nil_append]
      simp -dsimp -implicitDefEqProofs (disch := first | with_reducible assumption | omega) [go_sem]
      refine ⟨k + 1, o4, h4, ⟨by omega, i2.trans le4, k4, u1, fun d hdm => ?_⟩, by omega, by simp [Ent, List.lookup], ?_⟩
      · have h1 := dl_gq c1
        obtain ⟨h2, h3⟩ := List.getElem?_eq_some_iff.1 h1
        rw [List.take_succ_eq_append_getElem h2, h3] at hdm
        rcases List.mem_append.1 hdm with hdm | hdm
        · exact i5 d hdm
        · rw [List.mem_singleton.1 hdm]; exact hr
      · exact (Drop.perm _ (List.Perm.swap _ _ _)).trans (Drop.tail _ _ _)
  · have hkl : k = l.length := by omega
    subst hkl
    have htk : (dl l).take l.length = dl l := by rw [← dl_len l, List.take_length]
    rw [htk] at i5 hAll
    have e : bencA (dl l) = (0, 0) := by rw [bencA, dl_len, if_neg (by omega), goodN_all i5, dl_len, if_neg (by omega)]
    rw [e] at hk
    have eB : B l.length = encB (dl l) := by rw [hB, htk, encB, dl_len]
    rw [eB] at i3 hBl ⊢
    simp only [wO, rO, dO, List.cons_append, List.nil_append]
    simp -dsimp -implicitDefEqProofs (disch := first | with_reducible assumption | omega) [go_sem]
    have hbb : ∀ d ∈ dl l, ∀ z ∈ d.bits, 0 ≤ z ∧ z ≤ 255 := fun d hdm => by
      obtain ⟨q, hq, rfl⟩ := List.mem_map.1 hdm
      exact byte_of (hd.d q hq).i
    refine Spec.ap (wout_any (o := o) (s := (encB (dl l), 0)) [] (encB_byte hbb) i3 (by simp only; omega) fun h5 r le5 hr5 _ ap5 => ?_)
    have hr5 := hr5 rfl
    have or5 := hr5.open
    obtain ⟨x5, y5, rfl, _⟩ := or5
    simp only [wO, rO, dO, List.cons_append, List.nil_append]
    simp -dsimp -implicitDefEqProofs (disch := first | with_reducible assumption | omega) [go_sem]
    exact fin_tail (fin_oent (fin_here (hk h5 _ (le2.trans (i2.trans le5)) (by simpa using hr5))))
end Go.X

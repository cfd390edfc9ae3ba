/- Lemmas and contracts for a statement about the given program. Conditions: as each says. -/
import Derived.Test.YtkmojeioedjfkaaGreatQ03
import Derived.Test.YtkmojeioedjfkaaGreatQ04
import Derived.Test.YtkmojeioedjfkaaGreatQ07
import Derived.Test.YtkmojeioedjfkaaGreatQ10
import Derived.Test.YtkmojeioedjfkaaGreatQ14
set_option linter.unusedVariables false
set_option linter.unusedSimpArgs false
set_option maxHeartbeats 12800000
set_option maxRecDepth 20000
namespace Go.X
open Go.RowKit Go.Proofs Go.Bl
variable {L : Own} {h : PH} {K : PK}
def rAll (xs : List Int) (most : Int) : Nat → Nat × Int → List Int × (Nat × Int)
 | 0, s => ([], s)
 | k + 1, s => ((rNum xs s most).1 :: (rAll xs most k (rNum xs s most).2).1, (rAll xs most k (rNum xs s most).2).2)
theorem rAll_zero (xs : List Int) (most : Int) (s : Nat × Int) : rAll xs most 0 s = ([], s) := rfl
theorem rAll_len (xs : List Int) (most : Int) : ∀ k s, (rAll xs most k s).1.length = k
 | 0, _ => rfl
 | k + 1, s => by simp [rAll, rAll_len xs most k]
theorem rAll_pos {xs : List Int} {most : Int} (hx : ∀ z ∈ xs, 0 ≤ z ∧ z ≤ 255) (hm : 0 ≤ most) : ∀ (m : Nat) (s : Nat × Int), s.1 ≤ xs.length → (rAll xs most m s).2.1 ≤ xs.length ∧ ∀ z ∈ (rAll xs most m s).1, 0 ≤ z ∧ z ≤ most
 | 0, s, hs => ⟨hs, fun z hz => by simp [rAll] at hz⟩
 | m + 1, s, hs => by
  have hp := rNum_pos xs s most hx hs hm
  have ih := rAll_pos hx hm m (rNum xs s most).2 hp.1
  simp only [rAll]
  refine ⟨ih.1, fun z hz => ?_⟩
  rcases List.mem_cons.1 hz with rfl | hz
  ·exact hp.2
  ·exact ih.2 z hz
def parL (ws ns : List Int) : ParD := ⟨at0 ws 0, at0 ws 1, at0 ws 2, at0 ws 3, at0 ws 4, at0 ws 5, at0 ws 6, at0 ws 7, at0 ws 8, at0 ws 9, at0 ws 10, at0 ws 11, at0 ws 12, at0 ws 13, at0 ns 0, at0 ns 1, at0 ns 2, at0 ns 3, at0 ns 4, at0 ns 5, at0 ns 6, at0 ns 7, at0 ns 8, at0 ns 9⟩
theorem wides_parL (ws ns : List Int) (hw : ws.length = 14) : wides (parL ws ns) = ws := by
 match ws, hw with
 | [_, _, _, _, _, _, _, _, _, _, _, _, _, _], _ => rfl
theorem narrows_parL (ws ns : List Int) (hn : ns.length = 10) : narrows (parL ws ns) = ns := by
 match ns, hn with
 | [_, _, _, _, _, _, _, _, _, _], _ => rfl
def rPar (xs : List Int) (s : Nat × Int) : ParD × (Nat × Int) :=
 (parL (rAll xs 18446744073709551615 14 s).1 (rAll xs 2147483647 10 (rAll xs 18446744073709551615 14 s).2).1, (rAll xs 2147483647 10 (rAll xs 18446744073709551615 14 s).2).2)
theorem rPar_ok {xs : List Int} {s : Nat × Int} (hx : ∀ z ∈ xs, 0 ≤ z ∧ z ≤ 255) (hs : s.1 ≤ xs.length) : ParOk (rPar xs s).1 ∧ (rPar xs s).2.1 ≤ xs.length := by
 have h1 := rAll_pos hx (most := 18446744073709551615) (by decide) 14 s hs
 have h2 := rAll_pos hx (most := 2147483647) (by decide) 10 _ h1.1
 refine ⟨⟨fun z hz => ?_, fun z hz => ?_⟩, h2.1⟩
 ·rw [rPar, wides_parL _ _ (rAll_len _ _ _ _)] at hz
  exact h1.2 z hz
 ·rw [rPar, narrows_parL _ _ (rAll_len _ _ _ _)] at hz
  have := h2.2 z hz
  omega
def pRead (xs : List Int) (s : Nat × Int) : ParD × Int :=
 if (rPar xs s).2.2 ≠ 0 then (zeroP, (rPar xs s).2.2) else if parR (rPar xs s).1 then ((rPar xs s).1, 0) else (zeroP, 70)
def cellsP (ws ns : List Int) : List Value := ws.map (.int .u64) ++ (List.replicate (14 - ws.length) (.int .u64 0) ++ (ns.map (.int .i64) ++ List.replicate (10 - ns.length) (.int .i64 0)))
theorem cellsP_w (ws ns : List Int) (v : Int) (h : ws.length < 14) : (cellsP ws ns).set ws.length (.int .u64 v) = cellsP (ws ++ [v]) ns := by
 unfold cellsP
 rw [List.set_append_right _ _ (by simp), List.length_map, Nat.sub_self]
 obtain ⟨k, hk⟩ : ∃ k, 14 - ws.length = k + 1 := ⟨14 - ws.length - 1, by omega⟩
 have hk2 : 14 - (ws.length + 1) = k := by omega
 rw [hk, List.replicate_succ]
 simp [hk2]
theorem cellsP_n (ws ns : List Int) (v : Int) (hw : ws.length = 14) (h : ns.length < 10) : (cellsP ws ns).set (14 + ns.length) (.int .i64 v) = cellsP ws (ns ++ [v]) := by
 unfold cellsP
 obtain ⟨k, hk⟩ : ∃ k, 10 - ns.length = k + 1 := ⟨10 - ns.length - 1, by omega⟩
 have hk2 : 10 - (ns.length + 1) = k := by omega
 rw [hw, Nat.sub_self, List.replicate_zero, List.nil_append, List.set_append_right _ _ (by simp; omega), List.length_map, hw, Nat.add_sub_cancel_left, List.set_append_right _ _ (by simp), List.length_map, Nat.sub_self, hk, List.replicate_succ]
 simp [hk2]
theorem cellsP_full (ws ns : List Int) (hw : ws.length = 14) (hn : ns.length = 10) : cellsP ws ns = parC (parL ws ns) := by
 match ws, hw, ns, hn with
 | [_, _, _, _, _, _, _, _, _, _, _, _, _, _], _, [_, _, _, _, _, _, _, _, _, _], _ => rfl
theorem cellsP_len (ws ns : List Int) (hw : ws.length ≤ 14) (hn : ns.length ≤ 10) : (cellsP ws ns).length = 24 := by
 simp [cellsP]; omega
theorem pread_any {br : Nat} {v : Value} {xs : List Int} {s : Nat × Int} (hx : Ints h .u8 v xs) (hs : s.1 ≤ xs.length)
  (hk : ∀ h', PH.le h h' → K (.tuple #[parV (pRead xs s).1, .int .i64 (pRead xs s).2]) (rO br v (rPar xs s).2 L) h') :
  Spec Tryz.prog 234 [.pointer (some ⟨br, 0, none⟩)] (rO br v s L) h K := by
 have hz := byte_of hx
 refine x_enterA Tryz.func234 rfl (rs := [_, _]) rfl rfl mixed (by kernel_rfl) rfl rfl fun ap nd => ?_
 obtain ⟨ap1, _⟩ := ap
 simp only [wO, rO, List.cons_append, List.nil_append]
 simp -dsimp -implicitDefEqProofs (disch := first|with_reducible assumption|omega) [go_sem]
 refine xnew fun b2 n_b2 h_b2 => ?_
 try simp only [Apart] at n_b2
 simp -dsimp -implicitDefEqProofs (disch := first|with_reducible assumption|omega) [go_sem]
 refine Spec.apn (wides_any b2 fun h3 w le3 sl3 ap nd' => ?_)
 obtain ⟨t2, tr, _⟩ := ap
 obtain ⟨⟨n2, _⟩, _⟩ := nd'
 have op := sl3.openp
 obtain ⟨a1, c1, rfl, _, hcs⟩ := op
 simp only [Nat.zero_add] at hcs
 simp -dsimp -implicitDefEqProofs (disch := first|with_reducible assumption|omega) [go_sem]
 refine xloop (γ := Nat × (Nat × Int) × List Int) (0, s, [])
  (fun g => g.1 ≤ 14 ∧ g.2.2.length = g.1 ∧ g.2.1.1 ≤ xs.length ∧ rAll xs 18446744073709551615 14 s = (g.2.2 ++ (rAll xs 18446744073709551615 (14 - g.1) g.2.1).1, (rAll xs 18446744073709551615 (14 - g.1) g.2.1).2))
  (fun g => [(12, .int .i64 g.1), (11, .int .i64 14), (10, .slice a1 14 c1), (2, .pointer (some ⟨b2, 0, none⟩)), (0, .pointer (some ⟨br, 0, none⟩))])
  (fun g => rO br v g.2.1 (⟨b2, 25, cellsP g.2.2 [], 24⟩ :: L)) (fun _ => h3) (fun g => 14 - g.1) ?_ ?_ ?_ ?_
 ·exact ⟨by simp, rfl, hs, by simp⟩
 ·simp [Ent, List.lookup, xEnv]
 ·exact Drop.perm _ (List.Perm.swap _ _ _)
 rintro ⟨i, s1, ws⟩ ⟨i1, i2, i3, i4⟩
 simp only at i1 i2 i3 i4 ⊢
 by_cases d1 : i < 14
 ·have pn := rNum_pos xs s1 18446744073709551615 hz i3 (by decide)
  obtain ⟨k, hkk⟩ : ∃ k, 14 - i = k + 1 := ⟨14 - i - 1, by omega⟩
  have hk2 : 14 - (i + 1) = k := by omega
  have hl := cellsP_len ws [] (by omega) (by simp)
  simp only [wO, rO, List.cons_append, List.nil_append]
  simp -dsimp -implicitDefEqProofs (disch := first|with_reducible assumption|omega) [go_sem, idx hcs]
  refine rnum_any (s := s1) (hx.up le3) i3 ?_
  simp only [wO, rO, List.cons_append, List.nil_append]
  simp -dsimp -implicitDefEqProofs (disch := first|with_reducible assumption|omega) [go_sem]
  subst i2
  rw [cellsP_w ws [] _ d1]
  refine ⟨by omega, ws.length + 1, (rNum xs s1 18446744073709551615).2.1, (rNum xs s1 18446744073709551615).2.2, ws ++ [(rNum xs s1 18446744073709551615).1], ⟨by omega, by simp, pn.1, ?_⟩, by omega, by simp [Ent, List.lookup], Drop.refl _ _⟩
  rw [i4, hkk, hk2]
  simp [rAll]
 ·have hi : i = 14 := by omega
  subst hi
  simp only [Nat.sub_self, rAll_zero, List.append_nil] at i4
  simp only [wO, rO, List.cons_append, List.nil_append]
  simp -dsimp -implicitDefEqProofs (disch := first|with_reducible assumption|omega) [go_sem]
  refine Spec.apn (call_p1 (narrows_any b2 fun h4 w le4 sl4 ap nd' => ?_))
  obtain ⟨u2, ur, _⟩ := ap
  have op := sl4.openp
  obtain ⟨a2, c2, rfl, _, hcs2⟩ := op
  simp -dsimp -implicitDefEqProofs (disch := first|with_reducible assumption|omega) [go_sem]
  refine xloop (γ := Nat × (Nat × Int) × List Int) (0, s1, [])
   (fun g => g.1 ≤ 10 ∧ g.2.2.length = g.1 ∧ g.2.1.1 ≤ xs.length ∧ rAll xs 2147483647 10 s1 = (g.2.2 ++ (rAll xs 2147483647 (10 - g.1) g.2.1).1, (rAll xs 2147483647 (10 - g.1) g.2.1).2))
   (fun g => [(23, .int .i64 g.1), (22, .int .i64 10), (21, .slice a2 10 c2), (2, .pointer (some ⟨b2, 0, none⟩)), (0, .pointer (some ⟨br, 0, none⟩))])
   (fun g => rO br v g.2.1 (⟨b2, 25, cellsP ws g.2.2, 24⟩ :: L)) (fun _ => h4) (fun g => 10 - g.1) ?_ ?_ ?_ ?_
  ·exact ⟨by simp, rfl, i3, by simp⟩
  ·simp [Ent, List.lookup]
  ·exact Drop.perm _ (List.Perm.swap _ _ _)
  rintro ⟨j, s2, ns⟩ ⟨j1, j2, j3, j4⟩
  simp only at j1 j2 j3 j4 ⊢
  have hl := cellsP_len ws ns (by omega) (by omega)
  by_cases d2 : j < 10
  ·have pn := rNum_pos xs s2 2147483647 hz j3 (by decide)
   obtain ⟨k, hkk⟩ : ∃ k, 10 - j = k + 1 := ⟨10 - j - 1, by omega⟩
   have hk2 : 10 - (j + 1) = k := by omega
   simp only [wO, rO, List.cons_append, List.nil_append]
   simp -dsimp -implicitDefEqProofs (disch := first|with_reducible assumption|omega) [go_sem, idx hcs2]
   refine rint_any (s := s2) (hx.up (le3.trans le4)) j3 (by decide) (by decide) ?_
   simp only [wO, rO, List.cons_append, List.nil_append]
   simp -dsimp -implicitDefEqProofs (disch := first|with_reducible assumption|omega) [go_sem]
   subst j2
   rw [cellsP_n ws ns _ i2 d2]
   refine ⟨by omega, ns.length + 1, (rNum xs s2 2147483647).2.1, (rNum xs s2 2147483647).2.2, ns ++ [(rNum xs s2 2147483647).1], ⟨by omega, by simp, pn.1, ?_⟩, by omega, by simp [Ent, List.lookup], Drop.refl _ _⟩
   rw [j4, hkk, hk2]
   simp [rAll]
  ·have hj : j = 10 := by omega
   subst hj
   simp only [Nat.sub_self, rAll_zero, List.append_nil] at j4
   have hp : rPar xs s = (parL ws ns, s2) := by simp only [rPar, i4, j4]
   have hpok := rPar_ok hz hs
   rw [hp] at hpok
   have hr : pRead xs s = if s2.2 ≠ 0 then (zeroP, s2.2) else if parR (parL ws ns) then (parL ws ns, 0) else (zeroP, 70) := by simp only [pRead, hp]
   rw [cellsP_full ws ns i2 j2]
   rw [hp] at hk
   simp only at hk
   simp only [wO, rO, List.cons_append, List.nil_append]
   simp -dsimp -implicitDefEqProofs (disch := first|with_reducible assumption|omega) [go_sem]
   refine rerr_any (s := s2) ?_
   by_cases e : s2.2 = 0
   ·rw [if_neg (by simpa using e)] at hr
    simp only [wO, rO, List.cons_append, List.nil_append]
    simp -dsimp -implicitDefEqProofs (disch := first|with_reducible assumption|omega) [go_sem]
    refine Spec.apn (pcheck_any (parL ws ns) hpok.1 fun h5 le5 ap nd' => ?_)
    simp only [Ap] at ap
    obtain ⟨wr, w2, _⟩ := ap
    cases hpr : parR (parL ws ns) with
    | true =>
     rw [if_pos hpr] at hr
     rw [hr] at hk
     simp only [if_true]
     simp -dsimp -implicitDefEqProofs (disch := first|with_reducible assumption|omega) [go_sem]
     exact fin_perm (List.Perm.swap _ _ _) (fin_tail (fin_here (hk h5 (le3.trans (le4.trans le5)))))
    | false =>
     rw [if_neg (by simp [hpr])] at hr
     rw [hr] at hk
     simp only [Bool.false_eq_true, if_false]
     simp -dsimp -implicitDefEqProofs (disch := first|with_reducible assumption|omega) [go_sem]
     exact fin_perm (List.Perm.swap _ _ _) (fin_tail (fin_here (hk h5 (le3.trans (le4.trans le5)))))
   ·rw [if_pos e] at hr
    rw [hr] at hk
    simp only [wO, rO, List.cons_append, List.nil_append]
    simp -dsimp -implicitDefEqProofs (disch := first|with_reducible assumption|omega) [go_sem]
    exact fin_perm (List.Perm.swap _ _ _) (fin_tail (fin_here (hk h4 (le3.trans le4))))
structure IsDeed (h : PH) (bv : Value) (d : DeedD) : Prop where
 i : Ints h .u8 bv d.bits
 ok : DeedOk d
theorem IsDeed.up {h h' : PH} (le : PH.le h h') {bv : Value} {d : DeedD} (hd : IsDeed h bv d) : IsDeed h' bv d := ⟨hd.i.up le, hd.ok⟩
theorem par_ext {p q : ParD} (hpq : wides p ++ narrows p = wides q ++ narrows q) : p = q := by
 cases p; cases q
 simp only [wides, narrows, List.cons_append, List.nil_append, List.cons.injEq] at hpq
 simp only [ParD.mk.injEq]
 simp only [hpq, and_self]
def parK : List IntKind := [.u64, .u64, .u64, .u64, .u64, .u64, .u64, .u64, .u64, .u64, .u64, .u64, .u64, .u64, .i64, .i64, .i64, .i64, .i64, .i64, .i64, .i64, .i64, .i64]
theorem eqPar {T : Nat} (ht : Tryz.prog.underlying T = some (.struct (Tryz.prog.fieldsOf T))) (hp : Tryz.prog.stoodInHeld T = false) (hg : Tryz.prog.eqGuardType Tryz.prog.depth T = false) (hok : okF Tryz.prog (Tryz.prog.fieldsOf T).toList 0 parK = true)
  (p q : ParD) (x y : Operand) (K : Value → Prop) (t : Tok K) : xBin Tryz.prog .eql T x y (parV p) (parV q) K t = K (.bool (decide (p = q))) := by
 have e : decide (p = q) = decide (wides p ++ narrows p = wides q ++ narrows q) := by
  rw [decide_eq_decide]
  exact ⟨fun h => by rw [h], par_ext⟩
 rw [e]
 exact xBin_eqints (ks := parK) ht hp hg hok (wides p ++ narrows p) (wides q ++ narrows q) rfl rfl x y K t
@[go_sem ↓] theorem eqPar_api (p q : ParD) (x y : Operand) (K : Value → Prop) (t : Tok K) : xBin Tryz.prog .eql 25 x y (parV p) (parV q) K t = K (.bool (decide (p = q))) :=
 eqPar (T := 25) (by kernel_rfl) (by kernel_rfl) (by kernel_rfl) (by kernel_rfl) p q x y K t
@[go_sem ↓] theorem eqPar_ref (p q : ParD) (x y : Operand) (K : Value → Prop) (t : Tok K) : xBin Tryz.prog .eql 57 x y (parV p) (parV q) K t = K (.bool (decide (p = q))) :=
 eqPar (T := 57) (by kernel_rfl) (by kernel_rfl) (by kernel_rfl) (by kernel_rfl) p q x y K t
open Go.RowKit Go.Bl
theorem rflag_any {br : Nat} {v : Value} {xs : List Int} {s : Nat × Int} (hx : Ints h .u8 v xs) (hs : s.1 ≤ xs.length) (hk : K (.bool (decide ((rNum xs s 1).1 = 1))) (rO br v (rNum xs s 1).2 L) h) :
  Spec Tryz.prog 229 [.pointer (some ⟨br, 0, none⟩)] (rO br v s L) h K := by
 refine x_enterA Tryz.func229 rfl (rs := [_]) rfl rfl mixed (by kernel_rfl) rfl rfl fun ap nd => ?_
 simp -dsimp -implicitDefEqProofs (disch := first|with_reducible assumption|omega) [go_sem]
 refine rnum_any hx hs ?_
 simp -dsimp -implicitDefEqProofs (disch := first|with_reducible assumption|omega) [go_sem]
 exact fin_here hk
theorem rAll_stop {xs : List Int} {most : Int} {s : Nat × Int} (h : s.2 ≠ 0) : ∀ k, (rAll xs most k s).2 = s
 | 0 => rfl
 | k + 1 => by simp only [rAll, rNum_stop h]; exact rAll_stop h k
theorem rPar_stop {xs : List Int} {s : Nat × Int} (h : s.2 ≠ 0) : (rPar xs s).2 = s := by
 simp only [rPar]
 have h1 := rAll_stop (xs := xs) (most := 18446744073709551615) h 14
 have h2 := rAll_stop (xs := xs) (most := 2147483647) (s := (rAll xs 18446744073709551615 14 s).2) (by rw [h1]; exact h) 10
 rw [h2, h1]
theorem rNum_formI {xs rest : List Int} {k : Nat} {z most : Int} (h : xs.drop k = formN z.toNat ++ rest) (h0 : 0 ≤ z) (hm : z ≤ most) (hn : z < 18446744073709551616) : rNum xs (k, 0) most = (z, (k + (formN z.toNat).length, 0)) ∧ xs.drop (k + (formN z.toNat).length) = rest := by
 obtain ⟨n, rfl⟩ := Int.eq_ofNat_of_zero_le h0
 simp only [Int.toNat_natCast] at h ⊢
 exact rNum_form h (by omega) hm
theorem rAll_form {xs : List Int} {most : Int} (hm : most < 18446744073709551616) : ∀ (st : List Int) (k : Nat) (rest : List Int), xs.drop k = flatN st ++ rest → (∀ z ∈ st, 0 ≤ z ∧ z ≤ most) →
  rAll xs most st.length (k, 0) = (st, (k + (flatN st).length, 0)) ∧ xs.drop (k + (flatN st).length) = rest
 | [], k, rest, h, _ => ⟨rfl, by simpa [flatN] using h⟩
 | z :: st, k, rest, h, hz => by
  have h1 := hz z (by simp)
  simp only [flatN, List.append_assoc] at h
  obtain ⟨h2, h3⟩ := rNum_formI h h1.1 h1.2 (by omega)
  obtain ⟨h4, h5⟩ := rAll_form hm st _ rest h3 (fun x hx => hz x (by simp [hx]))
  refine ⟨?_, ?_⟩
  ·simp only [rAll, List.length_cons, h2, h4, flatN, List.length_append, Nat.add_assoc]
  ·simp only [flatN, List.length_append]
   rw [← Nat.add_assoc]; exact h5
theorem rAll_short {xs : List Int} {most : Int} (hm : most < 18446744073709551616) : ∀ (st : List Int) (s : Nat × Int) (rest : List Int), Short xs s (flatN st ++ rest) → (∀ z ∈ st, 0 ≤ z ∧ z ≤ most) →
  (rAll xs most st.length s).2.2 = 50 ∨ rAll xs most st.length s = (st, (rAll xs most st.length s).2) ∧ (rAll xs most st.length s).2.2 = 0 ∧ Short xs (rAll xs most st.length s).2 rest
 | [], s, rest, h, _ => by
  simp only [flatN, List.nil_append] at h
  simp only [rAll, List.length_nil]
  rcases h with h | h
  ·exact Or.inl h
  ·exact Or.inr ⟨trivial, h.1, Or.inr h⟩
 | z :: st, s, rest, h, hz => by
  have h1 := hz z (by simp)
  obtain ⟨n, rfl⟩ := Int.eq_ofNat_of_zero_le h1.1
  simp only [flatN, List.append_assoc, Int.toNat_natCast] at h
  simp only [rAll, List.length_cons]
  rcases h.num (by omega) h1.2 with h2 | ⟨h3, h4, h5⟩
  ·left; rw [rAll_stop (by omega)]; exact h2
  ·rcases rAll_short hm st _ rest h5 (fun x hx => hz x (by simp [hx])) with g | ⟨g1, g2, g3⟩
   ·exact Or.inl g
   ·refine Or.inr ⟨?_, g2, g3⟩
    rw [h3, g1]
theorem rAll_sound {xs : List Int} {most : Int} (hx : ∀ z ∈ xs, 0 ≤ z ∧ z ≤ 255) : ∀ (m : Nat) (s : Nat × Int) (st : List Int) (k : Nat), s.1 ≤ xs.length → rAll xs most m s = (st, (k, 0)) →
  s.2 = 0 ∧ xs.drop s.1 = flatN st ++ xs.drop k ∧ k ≤ xs.length
 | 0, s, st, k, hs, h => by
  simp only [rAll] at h
  injection h with h1 h2
  subst h1
  subst h2
  exact ⟨rfl, by simp [flatN], hs⟩
 | m + 1, s, st, k, hs, h => by
  simp only [rAll] at h
  injection h with h1 h2
  subst h1
  cases hr : rNum xs s most with
  | mk v p =>
   obtain ⟨j, e⟩ := p
   rw [hr] at h2
   simp only at h2 ⊢
   by_cases he : e = 0
   ·subst he
    obtain ⟨h0, n, rfl, hn, _, hd, _, hj⟩ := rNum_sound hx hr
    obtain ⟨_, b4, b5⟩ := rAll_sound hx m (j, 0) (rAll xs most m (j, 0)).1 k (hj hs) (Prod.ext rfl h2)
    refine ⟨h0, ?_, b5⟩
    simp only [flatN, Int.toNat_natCast, List.append_assoc]
    simp only at b4
    rw [hd, b4]
   ·rw [rAll_stop (by simpa using he)] at h2
    injection h2 with _ h2
    exact absurd h2 he
theorem parL_self (p : ParD) : parL (wides p) (narrows p) = p := by cases p; rfl
theorem par_bounds {p : ParD} (ok : ParOk p) (hr : parR p = true) : (∀ z ∈ wides p, 0 ≤ z ∧ z ≤ 18446744073709551615) ∧ ∀ z ∈ narrows p, 0 ≤ z ∧ z ≤ 2147483647 :=
 ⟨ok.w, fun z hz => by have := narrows_pos hr z hz; omega⟩
theorem rPar_form {xs rest : List Int} {k : Nat} {p : ParD} (ok : ParOk p) (hr : parR p = true) (h : xs.drop k = encP p ++ rest) : rPar xs (k, 0) = (p, (k + (encP p).length, 0)) ∧ pRead xs (k, 0) = (p, 0) ∧ xs.drop (k + (encP p).length) = rest := by
 obtain ⟨b1, b2⟩ := par_bounds ok hr
 have ep : encP p = flatN (wides p) ++ flatN (narrows p) := by rw [encP, flatN_append]
 rw [ep, List.append_assoc] at h
 obtain ⟨h1, h2⟩ := rAll_form (by decide) (wides p) k _ h b1
 obtain ⟨h3, h4⟩ := rAll_form (by decide) (narrows p) _ rest h2 b2
 have l1 : (wides p).length = 14 := rfl
 have l2 : (narrows p).length = 10 := rfl
 rw [l1] at h1
 rw [l2] at h3
 have e : rPar xs (k, 0) = (p, (k + (encP p).length, 0)) := by
  simp only [rPar, h1, h3, parL_self, ep, List.length_append, Nat.add_assoc]
 refine ⟨e, ?_, ?_⟩
 ·simp [pRead, e, hr]
 ·rw [ep, List.length_append, ← Nat.add_assoc]; exact h4
theorem rPar_short {xs rest : List Int} {s : Nat × Int} {p : ParD} (ok : ParOk p) (hr : parR p = true) (h : Short xs s (encP p ++ rest)) : (rPar xs s).2.2 = 50 ∨ (rPar xs s).1 = p ∧ (rPar xs s).2.2 = 0 ∧ pRead xs s = (p, 0) ∧ Short xs (rPar xs s).2 rest := by
 obtain ⟨b1, b2⟩ := par_bounds ok hr
 have ep : encP p = flatN (wides p) ++ flatN (narrows p) := by rw [encP, flatN_append]
 rw [ep, List.append_assoc] at h
 have l1 : (wides p).length = 14 := rfl
 have l2 : (narrows p).length = 10 := rfl
 rcases rAll_short (by decide) (wides p) s _ h b1 with h1 | ⟨h1, h2, h3⟩
 ·left
  rw [l1] at h1
  simp only [rPar]
  rw [rAll_stop (by omega)]; exact h1
 ·rw [l1] at h1 h2 h3
  rcases rAll_short (by decide) (narrows p) _ _ h3 b2 with g1 | ⟨g1, g2, g3⟩
  ·left; rw [l2] at g1; exact g1
  ·rw [l2] at g1 g2 g3
   have e1 : (rAll xs 18446744073709551615 14 s).1 = wides p := by rw [h1]
   have e2 : (rAll xs 2147483647 10 (rAll xs 18446744073709551615 14 s).2).1 = narrows p := by rw [g1]
   have e : (rPar xs s).1 = p := by simp only [rPar, e1, e2, parL_self]
   have e3 : (rPar xs s).2.2 = 0 := g2
   refine Or.inr ⟨e, e3, ?_, g3⟩
   simp [pRead, e3, e, hr]
theorem rPar_sound {xs : List Int} {s : Nat × Int} {k : Nat} (hx : ∀ z ∈ xs, 0 ≤ z ∧ z ≤ 255) (hs : s.1 ≤ xs.length) (h : (rPar xs s).2 = (k, 0)) : s.2 = 0 ∧ xs.drop s.1 = encP (rPar xs s).1 ++ xs.drop k ∧ k ≤ xs.length := by
 simp only [rPar] at h ⊢
 have hp := rAll_pos hx (most := 18446744073709551615) (by decide) 14 s hs
 obtain ⟨a1, a2, a3⟩ := rAll_sound hx 10 (rAll xs 18446744073709551615 14 s).2 _ k hp.1 (Prod.ext rfl h)
 obtain ⟨j, e⟩ : ∃ j, (rAll xs 18446744073709551615 14 s).2 = (j, 0) := ⟨(rAll xs 18446744073709551615 14 s).2.1, Prod.ext rfl a1⟩
 obtain ⟨b1, b2, b3⟩ := rAll_sound hx 14 s _ j hs (Prod.ext rfl e)
 refine ⟨b1, ?_, a3⟩
 rw [encP, wides_parL _ _ (rAll_len _ _ _ _), narrows_parL _ _ (rAll_len _ _ _ _), flatN_append, List.append_assoc, ← a2, b2, e]
theorem num_ahead {xs rest : List Int} {s : Nat × Int} {z most : Int} {c : Bool} (h0 : 0 ≤ z) (hm : z ≤ most) (hn : z < 18446744073709551616) (h : if c then Short xs s (formN z.toNat ++ rest) else s.2 = 0 ∧ xs.drop s.1 = formN z.toNat ++ rest) :
  (c = true ∧ (rNum xs s most).2.2 = 50) ∨ (rNum xs s most).1 = z ∧ (rNum xs s most).2.2 = 0 ∧ (if c then Short xs (rNum xs s most).2 rest else (rNum xs s most).2.2 = 0 ∧ xs.drop (rNum xs s most).2.1 = rest) ∧ (c = false → (rNum xs s most).2.1 = s.1 + (formN z.toNat).length) := by
 obtain ⟨n, rfl⟩ := Int.eq_ofNat_of_zero_le h0
 simp only [Int.toNat_natCast] at h ⊢
 cases c with
 | true =>
  simp only [if_true] at h ⊢
  rcases h.num (by omega) hm with h1 | ⟨h1, h2, h3⟩
  ·exact Or.inl ⟨trivial, h1⟩
  ·exact Or.inr ⟨h1, h2, h3, fun h => by cases h⟩
 | false =>
  simp only [Bool.false_eq_true, if_false] at h ⊢
  obtain ⟨k, e⟩ := s
  obtain ⟨he, hd⟩ := h
  simp only at he hd
  subst he
  obtain ⟨a1, a2⟩ := rNum_form hd (by omega) hm
  rw [a1]
  refine Or.inr ?_
  simp [a2]
theorem raw_ahead {xs rest b : List Int} {s : Nat × Int} {most : Int} {c : Bool} (hm : (b.length : Int) ≤ most) (hn : b.length < 18446744073709551616) (h : if c then Short xs s (rawN b ++ rest) else s.2 = 0 ∧ xs.drop s.1 = rawN b ++ rest) :
  (c = true ∧ (rRaw xs s most).2.2 = 50) ∨ (rRaw xs s most).1 = b ∧ (rRaw xs s most).2.2 = 0 ∧ (if c then Short xs (rRaw xs s most).2 rest else (rRaw xs s most).2.2 = 0 ∧ xs.drop (rRaw xs s most).2.1 = rest) ∧ (c = false → (rRaw xs s most).2.1 = s.1 + (rawN b).length) := by
 cases c with
 | true =>
  simp only [if_true] at h ⊢
  rcases h.raw (by omega) hm with h1 | ⟨h1, h2, h3⟩
  ·exact Or.inl ⟨trivial, h1⟩
  ·exact Or.inr ⟨h1, h2, h3, fun h => by cases h⟩
 | false =>
  simp only [Bool.false_eq_true, if_false] at h ⊢
  obtain ⟨k, e⟩ := s
  obtain ⟨he, hd⟩ := h
  simp only at he hd
  subst he
  obtain ⟨a1, a2⟩ := rRaw_form hd (by omega) hm
  rw [a1]
  refine Or.inr ?_
  simp [a2]
theorem par_ahead {xs rest : List Int} {s : Nat × Int} {p : ParD} {c : Bool} (ok : ParOk p) (hr : parR p = true) (h : if c then Short xs s (encP p ++ rest) else s.2 = 0 ∧ xs.drop s.1 = encP p ++ rest) :
  (c = true ∧ (rPar xs s).2.2 = 50) ∨ pRead xs s = (p, 0) ∧ (rPar xs s).2.2 = 0 ∧ (if c then Short xs (rPar xs s).2 rest else (rPar xs s).2.2 = 0 ∧ xs.drop (rPar xs s).2.1 = rest) ∧ (c = false → (rPar xs s).2.1 = s.1 + (encP p).length) := by
 cases c with
 | true =>
  simp only [if_true] at h ⊢
  rcases rPar_short ok hr h with h1 | ⟨_, h2, h3, h4⟩
  ·exact Or.inl ⟨trivial, h1⟩
  ·exact Or.inr ⟨h3, h2, h4, fun h => by cases h⟩
 | false =>
  simp only [Bool.false_eq_true, if_false] at h ⊢
  obtain ⟨k, e⟩ := s
  obtain ⟨he, hd⟩ := h
  simp only at he hd
  subst he
  obtain ⟨a1, a2, a3⟩ := rPar_form ok hr hd
  rw [a1]
  refine Or.inr ?_
  simp [a2, a3]
end Go.X

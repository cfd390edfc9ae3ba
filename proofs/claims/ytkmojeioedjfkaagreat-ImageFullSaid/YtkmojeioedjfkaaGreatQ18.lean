/- Lemmas and contracts for a statement about the given program. Conditions: as each says. -/
import Derived.Test.YtkmojeioedjfkaaGreatQ17
set_option linter.unusedVariables false
set_option linter.unusedSimpArgs false
set_option maxHeartbeats 12800000
set_option maxRecDepth 20000
namespace Go.X
open Go.RowKit Go.Proofs Go.Bl
variable {L : Own} {h : PH} {K : PK}
def motEnc (m : MotD) : List Int := formN m.acct.toNat ++ formN m.what.toNat ++ (if m.what = 1 then encP m.par else []) ++ formN m.to.toNat ++ formN m.amt.toNat ++ formN m.ends.toNat ++ formN m.due.toNat ++ formN m.state.toNat ++ rawN m.yes ++ rawN m.no
structure MotW (m : MotD) : Prop where
 acct : 0 ≤ m.acct ∧ m.acct ≤ 9223372036854775807
 what : 0 ≤ m.what ∧ m.what ≤ 9223372036854775807
 par : m.what = 1 → parR m.par = true
 to : 0 ≤ m.to ∧ m.to ≤ 9223372036854775807
 amt : 0 ≤ m.amt ∧ m.amt ≤ 18446744073709551615
 ends : 0 ≤ m.ends ∧ m.ends ≤ 9223372036854775807
 due : 0 ≤ m.due ∧ m.due ≤ 9223372036854775807
 state : 0 ≤ m.state ∧ m.state ≤ 9223372036854775807
 yes : m.yes.length ≤ 50
 no : m.no.length ≤ 50
 p : ParOk m.par
theorem ElC.par {a : Addr} {q : QM} (he : ElC h a (motC q)) (zz : List Value) (by' : Nat) (L : Own) (K : Value → Prop) (t : Tok K) : xLd ⟨24, true, zz, by'⟩ L h (some (a.add 2)) K t = K (parV q.2.2.par) := by
 have e : ∀ m, m < 24 → (motC q)[2 + m]? = (parC q.2.2.par)[m]? := fun m hm => by
  rcases (show m = 0 ∨ m = 1 ∨ m = 2 ∨ m = 3 ∨ m = 4 ∨ m = 5 ∨ m = 6 ∨ m = 7 ∨ m = 8 ∨ m = 9 ∨ m = 10 ∨ m = 11 ∨ m = 12 ∨ m = 13 ∨ m = 14 ∨ m = 15 ∨ m = 16 ∨ m = 17 ∨ m = 18 ∨ m = 19 ∨ m = 20 ∨ m = 21 ∨ m = 22 ∨ m = 23 by omega) with rfl | rfl | rfl | rfl | rfl | rfl | rfl | rfl | rfl | rfl | rfl | rfl | rfl | rfl | rfl | rfl | rfl | rfl | rfl | rfl | rfl | rfl | rfl | rfl <;> rfl
 rw [xLd_agg]
 show xCells L h (elem (some a) 2) 0 24 _ = _
 rw [xCells_elem 24 0 (parC q.2.2.par) _ rfl fun m hm => by
  rw [Nat.zero_add]
  have h1 := e m hm
  obtain ⟨v, hv⟩ : ∃ v, (parC q.2.2.par)[m]? = some v := ⟨_, List.getElem?_eq_getElem (by show m < 24; exact hm)⟩
  rw [hv] at h1 ⊢
  exact he _ _ h1]
theorem imot_w {bw : Nat} {o : Option (Nat × Nat)} {B : List Int} (A : Own) (a : Addr) (q : QM) (he : ElC h a (motC q)) (hm : IsMot h q) (hw : MotW q.2.2) (ho : okO o B.length) (hl : B.length ≤ 90000)
  (hk : ∀ h' o' B', PH.le h h' → B' = B ++ motEnc q.2.2 → okO o' B'.length → B'.length ≤ B.length + 440 → K (.tuple #[]) (iwO bw o' B' A L) h') :
  Spec Tryz.prog 105 [penW bw, .pointer (some a)] (iwO bw o B A L) h K := by
 have hd : ∀ h, RdW bw A L h [] := fun h => RdW.nil bw A L h
 obtain ⟨vy, vn, m⟩ := q
 have hy := hm.y
 have hn := hm.n
 simp only at hy hn hw hk
 refine x_enter Tryz.func105 rfl (rs := []) rfl rfl mixed (by kernel_rfl) rfl rfl ?_
 first | simp -dsimp -implicitDefEqProofs (disch := first|with_reducible assumption|omega) [go_sem] | skip
 refine xanyl (.tk 0 (.tk 1 (.tk 2 (.tk 3 (.tk 4 (.tk 5 (.tk 6 (.or true 7 (.fin) (.nil))))))))) (by kernel_rfl) (by kernel_rfl) [] (hd _ _ _ _ (PH.le_refl _)) ?_
 simp -dsimp -implicitDefEqProofs (disch := first|with_reducible assumption|omega) [go_sem, xAddO_any a, xAddO_at a, pnW_int bw]
 refine xcallI (penW_int bw) ?_
 refine iint_w A [] (hd _) a m.acct (he.rd0 rfl _) hw.acct.1 hw.acct.2 ho (by omega) fun h1 o1 B1 le1 e1 k1 l1 => ?_
 refine xkp (hd _ _ _ _ le1) ?_
 have he1 := he.up le1
 first | simp -dsimp -implicitDefEqProofs (disch := first|with_reducible assumption|omega) [go_sem] | skip
 refine xanyl (.tk 0 (.tk 1 (.tk 2 (.tk 3 (.tk 4 (.tk 5 (.tk 6 (.or true 7 (.fin) (.nil))))))))) (by kernel_rfl) (by kernel_rfl) [] (hd _ _ _ _ (PH.le_refl _)) ?_
 simp -dsimp -implicitDefEqProofs (disch := first|with_reducible assumption|omega) [go_sem, xAddO_any a, xAddO_at a, pnW_int bw]
 refine xcallI (penW_int bw) ?_
 refine iint_w A [] (hd _) (a.add 1) m.what (he1.rd (i := 1) rfl _) hw.what.1 hw.what.2 k1 (by omega) fun h2 o2 B2 le2 e2 k2 l2 => ?_
 refine xkp (hd _ _ _ _ le2) ?_
 have he2 := he1.up le2
 have ly := hw.yes
 have ln := hw.no
 by_cases c1 : m.what = 1
 ·have fw : ∀ (K : Value → Prop) (t : Tok K), xCell (iwO bw o2 B2 A L) h2 (some (a.add 1)) 0 K t = K (.int .i64 m.what) := he2.rd (i := 1) rfl _
  simp -dsimp -implicitDefEqProofs (disch := first|with_reducible assumption|omega) [go_sem, xAddO_any a, xAddO_at a]
  refine (fw _ ⟨⟩).mpr ?_
  simp -dsimp -implicitDefEqProofs (disch := first|with_reducible assumption|omega) [go_sem]
  first | simp -dsimp -implicitDefEqProofs (disch := first|with_reducible assumption|omega) [go_sem] | skip
  refine xanyl (.tk 0 (.tk 1 (.tk 2 (.tk 3 (.tk 4 (.tk 5 (.tk 6 (.or true 7 (.fin) (.nil))))))))) (by kernel_rfl) (by kernel_rfl) [] (hd _ _ _ _ (PH.le_refl _)) ?_
  simp -dsimp -implicitDefEqProofs (disch := first|with_reducible assumption|omega) [go_sem, xAddO_any a, xAddO_at a, pnW_params bw]
  refine xcallI (penW_params bw) ?_
  refine iparams_w A [] (hd _) (a.add 2) m.par hw.p (hw.par c1) (fun zz by' => he2.par zz by' _) k2 (by omega) fun h3 o3 B3 le3 e3 k3 l3 => ?_
  refine xkp (hd _ _ _ _ le3) ?_
  have he3 := he2.up le3
  first | simp -dsimp -implicitDefEqProofs (disch := first|with_reducible assumption|omega) [go_sem] | skip
  refine xanyl (.tk 0 (.tk 1 (.tk 2 (.tk 3 (.tk 4 (.tk 5 (.tk 6 (.or true 7 (.fin) (.nil))))))))) (by kernel_rfl) (by kernel_rfl) [] (hd _ _ _ _ (PH.le_refl _)) ?_
  simp -dsimp -implicitDefEqProofs (disch := first|with_reducible assumption|omega) [go_sem, xAddO_any a, xAddO_at a, pnW_int bw]
  refine xcallI (penW_int bw) ?_
  refine iint_w A [] (hd _) (a.add 26) m.to (he3.rd (i := 26) rfl _) hw.to.1 hw.to.2 k3 (by omega) fun h4 o4 B4 le4 e4 k4 l4 => ?_
  refine xkp (hd _ _ _ _ le4) ?_
  have he4 := he3.up le4
  first | simp -dsimp -implicitDefEqProofs (disch := first|with_reducible assumption|omega) [go_sem] | skip
  refine xanyl (.tk 0 (.tk 1 (.tk 2 (.tk 3 (.tk 4 (.tk 5 (.tk 6 (.or true 7 (.fin) (.nil))))))))) (by kernel_rfl) (by kernel_rfl) [] (hd _ _ _ _ (PH.le_refl _)) ?_
  simp -dsimp -implicitDefEqProofs (disch := first|with_reducible assumption|omega) [go_sem, xAddO_any a, xAddO_at a, pnW_num bw]
  refine xcallI (penW_num bw) ?_
  refine inum_w A [] (hd _) (a.add 27) m.amt (he4.rd (i := 27) rfl _) hw.amt.1 hw.amt.2 k4 (by omega) fun h5 o5 B5 le5 e5 k5 l5 => ?_
  refine xkp (hd _ _ _ _ le5) ?_
  have he5 := he4.up le5
  first | simp -dsimp -implicitDefEqProofs (disch := first|with_reducible assumption|omega) [go_sem] | skip
  refine xanyl (.tk 0 (.tk 1 (.tk 2 (.tk 3 (.tk 4 (.tk 5 (.tk 6 (.or true 7 (.fin) (.nil))))))))) (by kernel_rfl) (by kernel_rfl) [] (hd _ _ _ _ (PH.le_refl _)) ?_
  simp -dsimp -implicitDefEqProofs (disch := first|with_reducible assumption|omega) [go_sem, xAddO_any a, xAddO_at a, pnW_int bw]
  refine xcallI (penW_int bw) ?_
  refine iint_w A [] (hd _) (a.add 28) m.ends (he5.rd (i := 28) rfl _) hw.ends.1 hw.ends.2 k5 (by omega) fun h6 o6 B6 le6 e6 k6 l6 => ?_
  refine xkp (hd _ _ _ _ le6) ?_
  have he6 := he5.up le6
  first | simp -dsimp -implicitDefEqProofs (disch := first|with_reducible assumption|omega) [go_sem] | skip
  refine xanyl (.tk 0 (.tk 1 (.tk 2 (.tk 3 (.tk 4 (.tk 5 (.tk 6 (.or true 7 (.fin) (.nil))))))))) (by kernel_rfl) (by kernel_rfl) [] (hd _ _ _ _ (PH.le_refl _)) ?_
  simp -dsimp -implicitDefEqProofs (disch := first|with_reducible assumption|omega) [go_sem, xAddO_any a, xAddO_at a, pnW_int bw]
  refine xcallI (penW_int bw) ?_
  refine iint_w A [] (hd _) (a.add 29) m.due (he6.rd (i := 29) rfl _) hw.due.1 hw.due.2 k6 (by omega) fun h7 o7 B7 le7 e7 k7 l7 => ?_
  refine xkp (hd _ _ _ _ le7) ?_
  have he7 := he6.up le7
  first | simp -dsimp -implicitDefEqProofs (disch := first|with_reducible assumption|omega) [go_sem] | skip
  refine xanyl (.tk 0 (.tk 1 (.tk 2 (.tk 3 (.tk 4 (.tk 5 (.tk 6 (.or true 7 (.fin) (.nil))))))))) (by kernel_rfl) (by kernel_rfl) [] (hd _ _ _ _ (PH.le_refl _)) ?_
  simp -dsimp -implicitDefEqProofs (disch := first|with_reducible assumption|omega) [go_sem, xAddO_any a, xAddO_at a, pnW_int bw]
  refine xcallI (penW_int bw) ?_
  refine iint_w A [] (hd _) (a.add 30) m.state (he7.rd (i := 30) rfl _) hw.state.1 hw.state.2 k7 (by omega) fun h8 o8 B8 le8 e8 k8 l8 => ?_
  refine xkp (hd _ _ _ _ le8) ?_
  have he8 := he7.up le8
  first | simp -dsimp -implicitDefEqProofs (disch := first|with_reducible assumption|omega) [go_sem] | skip
  refine xanyl (.tk 0 (.tk 1 (.tk 2 (.tk 3 (.tk 4 (.tk 5 (.tk 6 (.or true 7 (.fin) (.nil))))))))) (by kernel_rfl) (by kernel_rfl) [] (hd _ _ _ _ (PH.le_refl _)) ?_
  simp -dsimp -implicitDefEqProofs (disch := first|with_reducible assumption|omega) [go_sem, xAddO_any a, xAddO_at a, pnW_raw bw]
  refine xcallI (penW_raw bw) ?_
  refine iraw_w A [] (hd _) (a.add 31) vy m.yes (he8.rd (i := 31) rfl _) (hy.up (((((((le1.trans le2).trans le3).trans le4).trans le5).trans le6).trans le7).trans le8)) (Nat.le_trans hw.yes (by decide)) k8 (by omega) fun h9 o9 B9 le9 e9 k9 l9 => ?_
  refine xkp (hd _ _ _ _ le9) ?_
  have he9 := he8.up le9
  first | simp -dsimp -implicitDefEqProofs (disch := first|with_reducible assumption|omega) [go_sem] | skip
  refine xanyl (.tk 0 (.tk 1 (.tk 2 (.tk 3 (.tk 4 (.tk 5 (.tk 6 (.or true 7 (.fin) (.nil))))))))) (by kernel_rfl) (by kernel_rfl) [] (hd _ _ _ _ (PH.le_refl _)) ?_
  simp -dsimp -implicitDefEqProofs (disch := first|with_reducible assumption|omega) [go_sem, xAddO_any a, xAddO_at a, pnW_raw bw]
  refine xcallI (penW_raw bw) ?_
  refine iraw_w A [] (hd _) (a.add 32) vn m.no (he9.rd (i := 32) rfl _) (hn.up ((((((((le1.trans le2).trans le3).trans le4).trans le5).trans le6).trans le7).trans le8).trans le9)) (Nat.le_trans hw.no (by decide)) k9 (by omega) fun h10 o10 B10 le10 e10 k10 l10 => ?_
  refine xkp (hd _ _ _ _ le10) ?_
  have he10 := he9.up le10
  first | simp -dsimp -implicitDefEqProofs (disch := first|with_reducible assumption|omega) [go_sem] | skip
  refine fin_here (hk h10 o10 B10 (((((((((le1.trans le2).trans le3).trans le4).trans le5).trans le6).trans le7).trans le8).trans le9).trans le10) ?_ k10 (by omega))
  rw [e10, e9, e8, e7, e6, e5, e4, e3, e2, e1, motEnc, if_pos c1]
  simp [List.append_assoc]
 ·have fw : ∀ (K : Value → Prop) (t : Tok K), xCell (iwO bw o2 B2 A L) h2 (some (a.add 1)) 0 K t = K (.int .i64 m.what) := he2.rd (i := 1) rfl _
  simp -dsimp -implicitDefEqProofs (disch := first|with_reducible assumption|omega) [go_sem, xAddO_any a, xAddO_at a]
  refine (fw _ ⟨⟩).mpr ?_
  simp -dsimp -implicitDefEqProofs (disch := first|with_reducible assumption|omega) [go_sem]
  first | simp -dsimp -implicitDefEqProofs (disch := first|with_reducible assumption|omega) [go_sem] | skip
  refine xanyl (.tk 0 (.tk 1 (.tk 2 (.tk 3 (.tk 4 (.tk 5 (.tk 6 (.or true 7 (.fin) (.nil))))))))) (by kernel_rfl) (by kernel_rfl) [] (hd _ _ _ _ (PH.le_refl _)) ?_
  simp -dsimp -implicitDefEqProofs (disch := first|with_reducible assumption|omega) [go_sem, xAddO_any a, xAddO_at a, pnW_int bw]
  refine xcallI (penW_int bw) ?_
  refine iint_w A [] (hd _) (a.add 26) m.to (he2.rd (i := 26) rfl _) hw.to.1 hw.to.2 k2 (by omega) fun h3 o3 B3 le3 e3 k3 l3 => ?_
  refine xkp (hd _ _ _ _ le3) ?_
  have he3 := he2.up le3
  first | simp -dsimp -implicitDefEqProofs (disch := first|with_reducible assumption|omega) [go_sem] | skip
  refine xanyl (.tk 0 (.tk 1 (.tk 2 (.tk 3 (.tk 4 (.tk 5 (.tk 6 (.or true 7 (.fin) (.nil))))))))) (by kernel_rfl) (by kernel_rfl) [] (hd _ _ _ _ (PH.le_refl _)) ?_
  simp -dsimp -implicitDefEqProofs (disch := first|with_reducible assumption|omega) [go_sem, xAddO_any a, xAddO_at a, pnW_num bw]
  refine xcallI (penW_num bw) ?_
  refine inum_w A [] (hd _) (a.add 27) m.amt (he3.rd (i := 27) rfl _) hw.amt.1 hw.amt.2 k3 (by omega) fun h4 o4 B4 le4 e4 k4 l4 => ?_
  refine xkp (hd _ _ _ _ le4) ?_
  have he4 := he3.up le4
  first | simp -dsimp -implicitDefEqProofs (disch := first|with_reducible assumption|omega) [go_sem] | skip
  refine xanyl (.tk 0 (.tk 1 (.tk 2 (.tk 3 (.tk 4 (.tk 5 (.tk 6 (.or true 7 (.fin) (.nil))))))))) (by kernel_rfl) (by kernel_rfl) [] (hd _ _ _ _ (PH.le_refl _)) ?_
  simp -dsimp -implicitDefEqProofs (disch := first|with_reducible assumption|omega) [go_sem, xAddO_any a, xAddO_at a, pnW_int bw]
  refine xcallI (penW_int bw) ?_
  refine iint_w A [] (hd _) (a.add 28) m.ends (he4.rd (i := 28) rfl _) hw.ends.1 hw.ends.2 k4 (by omega) fun h5 o5 B5 le5 e5 k5 l5 => ?_
  refine xkp (hd _ _ _ _ le5) ?_
  have he5 := he4.up le5
  first | simp -dsimp -implicitDefEqProofs (disch := first|with_reducible assumption|omega) [go_sem] | skip
  refine xanyl (.tk 0 (.tk 1 (.tk 2 (.tk 3 (.tk 4 (.tk 5 (.tk 6 (.or true 7 (.fin) (.nil))))))))) (by kernel_rfl) (by kernel_rfl) [] (hd _ _ _ _ (PH.le_refl _)) ?_
  simp -dsimp -implicitDefEqProofs (disch := first|with_reducible assumption|omega) [go_sem, xAddO_any a, xAddO_at a, pnW_int bw]
  refine xcallI (penW_int bw) ?_
  refine iint_w A [] (hd _) (a.add 29) m.due (he5.rd (i := 29) rfl _) hw.due.1 hw.due.2 k5 (by omega) fun h6 o6 B6 le6 e6 k6 l6 => ?_
  refine xkp (hd _ _ _ _ le6) ?_
  have he6 := he5.up le6
  first | simp -dsimp -implicitDefEqProofs (disch := first|with_reducible assumption|omega) [go_sem] | skip
  refine xanyl (.tk 0 (.tk 1 (.tk 2 (.tk 3 (.tk 4 (.tk 5 (.tk 6 (.or true 7 (.fin) (.nil))))))))) (by kernel_rfl) (by kernel_rfl) [] (hd _ _ _ _ (PH.le_refl _)) ?_
  simp -dsimp -implicitDefEqProofs (disch := first|with_reducible assumption|omega) [go_sem, xAddO_any a, xAddO_at a, pnW_int bw]
  refine xcallI (penW_int bw) ?_
  refine iint_w A [] (hd _) (a.add 30) m.state (he6.rd (i := 30) rfl _) hw.state.1 hw.state.2 k6 (by omega) fun h7 o7 B7 le7 e7 k7 l7 => ?_
  refine xkp (hd _ _ _ _ le7) ?_
  have he7 := he6.up le7
  first | simp -dsimp -implicitDefEqProofs (disch := first|with_reducible assumption|omega) [go_sem] | skip
  refine xanyl (.tk 0 (.tk 1 (.tk 2 (.tk 3 (.tk 4 (.tk 5 (.tk 6 (.or true 7 (.fin) (.nil))))))))) (by kernel_rfl) (by kernel_rfl) [] (hd _ _ _ _ (PH.le_refl _)) ?_
  simp -dsimp -implicitDefEqProofs (disch := first|with_reducible assumption|omega) [go_sem, xAddO_any a, xAddO_at a, pnW_raw bw]
  refine xcallI (penW_raw bw) ?_
  refine iraw_w A [] (hd _) (a.add 31) vy m.yes (he7.rd (i := 31) rfl _) (hy.up ((((((le1.trans le2).trans le3).trans le4).trans le5).trans le6).trans le7)) (Nat.le_trans hw.yes (by decide)) k7 (by omega) fun h8 o8 B8 le8 e8 k8 l8 => ?_
  refine xkp (hd _ _ _ _ le8) ?_
  have he8 := he7.up le8
  first | simp -dsimp -implicitDefEqProofs (disch := first|with_reducible assumption|omega) [go_sem] | skip
  refine xanyl (.tk 0 (.tk 1 (.tk 2 (.tk 3 (.tk 4 (.tk 5 (.tk 6 (.or true 7 (.fin) (.nil))))))))) (by kernel_rfl) (by kernel_rfl) [] (hd _ _ _ _ (PH.le_refl _)) ?_
  simp -dsimp -implicitDefEqProofs (disch := first|with_reducible assumption|omega) [go_sem, xAddO_any a, xAddO_at a, pnW_raw bw]
  refine xcallI (penW_raw bw) ?_
  refine iraw_w A [] (hd _) (a.add 32) vn m.no (he8.rd (i := 32) rfl _) (hn.up (((((((le1.trans le2).trans le3).trans le4).trans le5).trans le6).trans le7).trans le8)) (Nat.le_trans hw.no (by decide)) k8 (by omega) fun h9 o9 B9 le9 e9 k9 l9 => ?_
  refine xkp (hd _ _ _ _ le9) ?_
  have he9 := he8.up le9
  first | simp -dsimp -implicitDefEqProofs (disch := first|with_reducible assumption|omega) [go_sem] | skip
  refine fin_here (hk h9 o9 B9 ((((((((le1.trans le2).trans le3).trans le4).trans le5).trans le6).trans le7).trans le8).trans le9) ?_ k9 (by omega))
  rw [e9, e8, e7, e6, e5, e4, e3, e2, e1, motEnc, if_neg c1]
  simp [List.append_assoc]
theorem cl7_w {bw b2 : Nat} {o : Option (Nat × Nat)} {B : List Int} (A : Own) (hb : penB b2 bw ∈ A) (a : Addr) (q : QM) (he : ElC h a (motC q)) (hm : IsMot h q) (hw : MotW q.2.2) (ho : okO o B.length) (hl : B.length ≤ 90000)
  (hk : ∀ h' o' B', PH.le h h' → B' = B ++ motEnc q.2.2 → okO o' B'.length → B'.length ≤ B.length + 440 → K (.tuple #[]) (iwO bw o' B' A L) h') :
  Spec Tryz.prog 104 [.pointer (some a), .pointer (some ⟨b2, 0, none⟩)] (iwO bw o B A L) h K := by
 have hmem : ∀ o B, penB b2 bw ∈ iwO bw o B A L := fun o B => List.mem_cons_of_mem _ (List.mem_append_left _ hb)
 refine x_enterA Tryz.func104 rfl (rs := []) rfl rfl mixed (by kernel_rfl) rfl rfl fun ap nd => ?_
 have hb2 : h b2 = noC := Ap.mem' (L := iwO bw o B A L) ap _ (hmem o B)
 have fm := xFind_mem (i := 0) (by decide) nd (hmem o B) rfl
 simp -dsimp -implicitDefEqProofs (disch := first|with_reducible assumption|omega) [go_sem, fm]
 refine imot_w A a q he hm hw ho hl fun h' o' B' le e k1 l1 => ?_
 simp -dsimp -implicitDefEqProofs (disch := first|with_reducible assumption|omega) [go_sem]
 exact fin_here (hk h' o' B' le e k1 l1)
def motEncQ (q : QM) : List Int := motEnc q.2.2
def rawEncQ (q : QS) : List Int := rawN q.2
def strC (q : QS) : List Value := [q.1]
def zeroQS : QS := (.slice none 0 0, [])
theorem strs_recs {v : Value} {q : List QS} (hs : Strs h v q) : Recs strC 1 h v q := ⟨fun _ => rfl, by
 have e : ∀ l : List QS, l.flatMap strC = vsL l := fun l => by
  induction l with
  | nil => rfl
  | cons a l ih => rw [List.flatMap_cons, ih]; rfl
 rw [e]; exact hs.s⟩
theorem lmot_w {bw b1 b2 ty cp : Nat} {cs : List Value} {o : Option (Nat × Nat)} {B : List Int} (A : Own) (hb : penB b2 bw ∈ A) (hx : (⟨b1, ty, cs, cp⟩ : Blk) ∈ A) (hty : ty ≠ 4294967295) (off : Nat) (l : List QM) (ma : Option Addr) (mc : Nat) (hn : cs[off]? = some (.slice ma l.length mc)) (hR : Recs motC 33 h (.slice ma l.length mc) l) (hM : ∀ x ∈ l, IsMot h x ∧ MotW x.2.2) (hll : l.length ≤ 2000) (ho : okO o B.length) (hl : B.length + 10 + 440 * l.length ≤ 90000)
  (hk : ∀ h' o' B', PH.le h h' → B' = B ++ (formN l.length ++ l.flatMap motEncQ) → okO o' B'.length → B'.length ≤ B.length + 10 + 440 * l.length → K (.tuple #[]) (iwO bw o' B' A L) h') :
  Spec Tryz.prog 103 [penW bw, .pointer (some ⟨b1, off, none⟩), .func (.func 104) #[] #[.pointer (some ⟨b2, 0, none⟩)]] (iwO bw o B A L) h K := by
 have hd : ∀ h, RdW bw A L h [⟨b1, ty, cs, cp⟩] := fun h => RdW.mem L h hx
 have hmem : ∀ o B, (⟨b1, ty, cs, cp⟩ : Blk) ∈ iwO bw o B A L := fun o B => List.mem_cons_of_mem _ (List.mem_append_left _ hx)
 refine x_enterA Tryz.func103 rfl (rs := []) rfl rfl mixed (by kernel_rfl) rfl rfl fun ap nd => ?_
 have hb1 : h b1 = noC := Ap.mem' (L := iwO bw o B A L) ap _ (hmem o B)
 clear ap nd
 simp -dsimp -implicitDefEqProofs (disch := first|with_reducible assumption|omega) [go_sem]
 refine xanyl (.tk 0 (.tk 1 (.tk 2 (.tk 5 (.tk 6 (.tk 7 (.tkl 3 (.tk 4 (.or true 8 (.tk 9 (.fin)) (.nil)))))))))) (by kernel_rfl) (by kernel_rfl) [⟨b1, ty, cs, cp⟩] (hd _ _ _ _ (PH.le_refl _)) ?_
 simp -dsimp -implicitDefEqProofs (disch := first|with_reducible assumption|omega) [go_sem, xNth_of hn, pnW_count bw]
 refine xcallI (penW_count bw) ?_
 refine Spec.apn (icount_w A l.length (by omega) ho (by omega) fun h1 o1 B1 le1 e1 k1 l1 ap nd => ?_)
 refine xkp (hd _ _ _ _ le1) ?_
 simp -dsimp -implicitDefEqProofs (disch := first|with_reducible assumption|omega) [go_sem]
 refine xloop (γ := Nat × PH × Option (Nat × Nat) × List Int) (0, h1, o1, B1)
  (fun x => x.1 ≤ l.length ∧ PH.le h1 x.2.1 ∧ okO x.2.2.1 x.2.2.2.length ∧ x.2.2.2 = B1 ++ (l.take x.1).flatMap motEncQ ∧ x.2.2.2.length ≤ B.length + 10 + 440 * x.1 ∧ Ap (iwO bw x.2.2.1 x.2.2.2 A L) x.2.1 ∧ Nd (iwO bw x.2.2.1 x.2.2.2 A L))
  (fun x => [(21, .int .i64 x.1), (20, .int .i64 l.length), (0, penW bw), (1, .pointer (some ⟨b1, off, none⟩)), (2, .func (.func 104) #[] #[.pointer (some ⟨b2, 0, none⟩)])])
  (fun x => iwO bw x.2.2.1 x.2.2.2 A L) (fun x => x.2.1) (fun x => l.length - x.1) ?_ ?_ ?_ ?_
 ·exact ⟨Nat.zero_le _, PH.le_refl _, k1, by simp, by simpa using l1, ap, nd⟩
 ·simp [Ent, List.lookup, xEnv]
 ·exact Drop.refl _ _
 clear ap nd
 rintro ⟨k, hh, oo, BB⟩ ⟨i1, i2, i3, i4, i5, ap, nd⟩
 simp only at i1 i2 i3 i4 i5 ap nd ⊢
 have hbb : hh b1 = noC := Ap.mem' (L := iwO bw oo BB A L) ap _ (hmem oo BB)
 by_cases c1 : k < l.length
 ·obtain ⟨q, rfl⟩ : ∃ q, ma = some q := by
   cases ma with
   | none =>
    have := (hR.cell (z := zeroQM) c1 (m := 0) (by decide))
    rw [List.getElem?_eq_getElem (by rw [hR.len]; decide)] at this
    simp [elemCell] at this
   | some q => exact ⟨q, rfl⟩
  have hR2 := hR.up (le1.trans i2)
  have hel := recs_el (z := zeroQM) hR2 c1
  have hmx := hM _ (gr_mem' (z := zeroQM) c1)
  have fm := xFind_mem hty nd (hmem oo BB) hn
  simp -dsimp -implicitDefEqProofs (disch := first|with_reducible assumption|omega) [go_sem, fm, ↓idxR zeroQM (by decide) hR2]
  refine Spec.apn (cl7_w A hb (q.add (k * 33)) (gr zeroQM l k) hel (hmx.1.up (le1.trans i2)) hmx.2 i3 (by omega) fun h5 o5 B5 le5 e5 k5 l5 ap5 nd5 => ?_)
  simp -dsimp -implicitDefEqProofs (disch := first|with_reducible assumption|omega) [go_sem]
  refine ⟨k + 1, h5, o5, B5, ⟨by omega, i2.trans le5, k5, ?_, by omega, ap5, nd5⟩, by omega, by simp [Ent, List.lookup], Drop.refl _ _⟩
  rw [e5, i4, List.take_succ_eq_append_getElem c1, List.flatMap_append, List.flatMap_cons, List.flatMap_nil, List.append_nil, List.append_assoc, gr_lt c1]
  try rfl
 ·have hkl : k = l.length := by omega
  subst hkl
  rw [List.take_length] at i4
  simp -dsimp -implicitDefEqProofs (disch := first|with_reducible assumption|omega) [go_sem]
  exact fin_here (hk hh oo BB (le1.trans i2) (by rw [i4, e1, List.append_assoc]) i3 i5)
theorem lstr_w {bw b1 b2 ty cp : Nat} {cs : List Value} {o : Option (Nat × Nat)} {B : List Int} (A : Own) (hb : penB b2 bw ∈ A) (hx : (⟨b1, ty, cs, cp⟩ : Blk) ∈ A) (hty : ty ≠ 4294967295) (off : Nat) (l : List QS) (ma : Option Addr) (mc : Nat) (hn : cs[off]? = some (.slice ma l.length mc)) (hR : Recs strC 1 h (.slice ma l.length mc) l) (hM : ∀ x ∈ l, Ints h .u8 x.1 x.2 ∧ x.2.length ≤ 50) (hll : l.length ≤ 2000) (ho : okO o B.length) (hl : B.length + 10 + 60 * l.length ≤ 90000)
  (hk : ∀ h' o' B', PH.le h h' → B' = B ++ (formN l.length ++ l.flatMap rawEncQ) → okO o' B'.length → B'.length ≤ B.length + 10 + 60 * l.length → K (.tuple #[]) (iwO bw o' B' A L) h') :
  Spec Tryz.prog 106 [penW bw, .pointer (some ⟨b1, off, none⟩), .func (.func 107) #[] #[.pointer (some ⟨b2, 0, none⟩)]] (iwO bw o B A L) h K := by
 have hd : ∀ h, RdW bw A L h [⟨b1, ty, cs, cp⟩] := fun h => RdW.mem L h hx
 have hmem : ∀ o B, (⟨b1, ty, cs, cp⟩ : Blk) ∈ iwO bw o B A L := fun o B => List.mem_cons_of_mem _ (List.mem_append_left _ hx)
 refine x_enterA Tryz.func106 rfl (rs := []) rfl rfl mixed (by kernel_rfl) rfl rfl fun ap nd => ?_
 have hb1 : h b1 = noC := Ap.mem' (L := iwO bw o B A L) ap _ (hmem o B)
 clear ap nd
 simp -dsimp -implicitDefEqProofs (disch := first|with_reducible assumption|omega) [go_sem]
 refine xanyl (.tk 0 (.tk 1 (.tk 2 (.tk 5 (.tk 6 (.tk 7 (.tkl 3 (.tk 4 (.or true 8 (.tk 9 (.fin)) (.nil)))))))))) (by kernel_rfl) (by kernel_rfl) [⟨b1, ty, cs, cp⟩] (hd _ _ _ _ (PH.le_refl _)) ?_
 simp -dsimp -implicitDefEqProofs (disch := first|with_reducible assumption|omega) [go_sem, xNth_of hn, pnW_count bw]
 refine xcallI (penW_count bw) ?_
 refine Spec.apn (icount_w A l.length (by omega) ho (by omega) fun h1 o1 B1 le1 e1 k1 l1 ap nd => ?_)
 refine xkp (hd _ _ _ _ le1) ?_
 simp -dsimp -implicitDefEqProofs (disch := first|with_reducible assumption|omega) [go_sem]
 refine xloop (γ := Nat × PH × Option (Nat × Nat) × List Int) (0, h1, o1, B1)
  (fun x => x.1 ≤ l.length ∧ PH.le h1 x.2.1 ∧ okO x.2.2.1 x.2.2.2.length ∧ x.2.2.2 = B1 ++ (l.take x.1).flatMap rawEncQ ∧ x.2.2.2.length ≤ B.length + 10 + 60 * x.1 ∧ Ap (iwO bw x.2.2.1 x.2.2.2 A L) x.2.1 ∧ Nd (iwO bw x.2.2.1 x.2.2.2 A L))
  (fun x => [(21, .int .i64 x.1), (20, .int .i64 l.length), (0, penW bw), (1, .pointer (some ⟨b1, off, none⟩)), (2, .func (.func 107) #[] #[.pointer (some ⟨b2, 0, none⟩)])])
  (fun x => iwO bw x.2.2.1 x.2.2.2 A L) (fun x => x.2.1) (fun x => l.length - x.1) ?_ ?_ ?_ ?_
 ·exact ⟨Nat.zero_le _, PH.le_refl _, k1, by simp, by simpa using l1, ap, nd⟩
 ·simp [Ent, List.lookup, xEnv]
 ·exact Drop.refl _ _
 clear ap nd
 rintro ⟨k, hh, oo, BB⟩ ⟨i1, i2, i3, i4, i5, ap, nd⟩
 simp only at i1 i2 i3 i4 i5 ap nd ⊢
 have hbb : hh b1 = noC := Ap.mem' (L := iwO bw oo BB A L) ap _ (hmem oo BB)
 by_cases c1 : k < l.length
 ·obtain ⟨q, rfl⟩ : ∃ q, ma = some q := by
   cases ma with
   | none =>
    have := (hR.cell (z := zeroQS) c1 (m := 0) (by decide))
    rw [List.getElem?_eq_getElem (by rw [hR.len]; decide)] at this
    simp [elemCell] at this
   | some q => exact ⟨q, rfl⟩
  have hR2 := hR.up (le1.trans i2)
  have hel := recs_el (z := zeroQS) hR2 c1
  have hmx := hM _ (gr_mem' (z := zeroQS) c1)
  have fm := xFind_mem hty nd (hmem oo BB) hn
  simp -dsimp -implicitDefEqProofs (disch := first|with_reducible assumption|omega) [go_sem, fm, ↓idxR zeroQS (by decide) hR2, Nat.mul_one]
  rw [Nat.mul_one] at hel
  refine Spec.apn (cl8_w A hb (q.add k) (gr zeroQS l k).1 (gr zeroQS l k).2 (hmx.1.up (le1.trans i2)) hmx.2 hel i3 (by omega) fun h5 o5 B5 le5 e5 k5 l5 ap5 nd5 => ?_)
  simp -dsimp -implicitDefEqProofs (disch := first|with_reducible assumption|omega) [go_sem]
  refine ⟨k + 1, h5, o5, B5, ⟨by omega, i2.trans le5, k5, ?_, by omega, ap5, nd5⟩, by omega, by simp [Ent, List.lookup], Drop.refl _ _⟩
  rw [e5, i4, List.take_succ_eq_append_getElem c1, List.flatMap_append, List.flatMap_cons, List.flatMap_nil, List.append_nil, List.append_assoc, gr_lt c1]
  try rfl
 ·have hkl : k = l.length := by omega
  subst hkl
  rw [List.take_length] at i4
  simp -dsimp -implicitDefEqProofs (disch := first|with_reducible assumption|omega) [go_sem]
  exact fin_here (hk hh oo BB (le1.trans i2) (by rw [i4, e1, List.append_assoc]) i3 i5)
end Go.X

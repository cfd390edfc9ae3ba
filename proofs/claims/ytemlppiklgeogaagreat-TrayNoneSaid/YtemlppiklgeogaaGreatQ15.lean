/- Part of the proof of a statement about the given program: lemmas and contracts. Conditions: as each says. -/
import Derived.Test.YtemlppiklgeogaaGreatQ07
import Derived.Test.YtemlppiklgeogaaGreatQ09
import Derived.Test.YtemlppiklgeogaaGreatQ12
import Derived.Test.YtemlppiklgeogaaGreatQ14
/- Contracts of the image's writer: num, int, flag, raw, params, count, called through the pen. Conditions: the writer is the call's own and nothing went wrong. -/
set_option linter.unusedVariables false
set_option linter.unusedSimpArgs false
set_option maxRecDepth 20000
namespace Go.X
open Go.RowKit Go.Proofs Go.Bl
variable {L : Own} {h : PH} {K : PK}
/-- the image's writer: what was written; nothing went wrong -/
abbrev iwO (bw : Nat) (o : Option (Nat × Nat)) (B : List Int) (A L : Own) : Own := wG 130 3 [.int .i64 0] bw o (B, 0) A L
/-- what is read is known, or in a block that stays -/
def RdW (bw : Nat) (A L : Own) (h : PH) (L0 : Own) : Prop := ∀ o B h', PH.le h h' → Drop (iwO bw o B A L) h' L0 h
theorem RdW.nil (bw : Nat) (A L : Own) (h : PH) : RdW bw A L h [] := fun o B h' le => (Drop.forget le).trans fun W hg =>
  ⟨⟨hg.sub, (fun e he => by cases he), List.nodup_nil, (fun e he => by cases he)⟩, (fun e he => by cases he)⟩
theorem RdW.mem {bw : Nat} {A : Own} (L : Own) (h : PH) {x : Blk} (hx : x ∈ A) : RdW bw A L h [x] := fun o B h' le => (Drop.forget le).trans (Drop.mem (List.mem_cons_of_mem _ (List.mem_append_left _ hx)))
theorem RdW.up {bw : Nat} {A L L0 : Own} {h h' : PH} (le : PH.le h h') (hr : RdW bw A L h L0) : RdW bw A L h' L0 → RdW bw A L h' L0 := id
end Go.X
/- Contracts of the closures and lists by which the image's writer goes through a state. Conditions: the writer is the call's own, the lists are known. -/
set_option linter.unusedVariables false
set_option linter.unusedSimpArgs false
set_option maxRecDepth 20000
namespace Go.X
open Go.RowKit Go.Proofs Go.Bl
variable {L : Own} {h : PH} {K : PK}
/-- cells of an element that is known -/
def ElC (h : PH) (a : Addr) (cs : List Value) : Prop := ∀ i v, cs[i]? = some v → elemCell h (some a) i = some v
theorem ElC.up {h h' : PH} (le : PH.le h h') {a : Addr} {cs : List Value} (he : ElC h a cs) : ElC h' a cs := fun i v hi => elemCell_up le (he i v hi)
theorem Ap.mem' {h : PH} : ∀ {L : Own}, Ap L h → ∀ e ∈ L, h e.b = noC
  | [], _, e, he => by cases he
  | x :: L, ha, e, he => by
    rcases List.mem_cons.1 he with rfl | he
    · exact ha.1
    · exact Ap.mem' ha.2 e he
theorem findOwn_mem {b ty cp i : Nat} {cs : List Value} (hty : ty ≠ 4294967295) : ∀ {L : Own}, Nd L → (⟨b, ty, cs, cp⟩ : Blk) ∈ L → findOwn L b i = cs[i]?
  | [], _, hx => by cases hx
  | e :: L, hn, hx => by
    rw [findOwn]
    rcases List.mem_cons.1 hx with e1 | hx1
    · subst e1
      rw [if_pos rfl, if_neg hty]
    · have hne := of_apart hn.1 _ hx1
      rw [if_neg (Ne.symm hne)]
      exact findOwn_mem hty hn.2 hx1
theorem xFind_mem {b ty cp i : Nat} {cs : List Value} {v : Value} (hty : ty ≠ 4294967295) {L : Own} (nd : Nd L) (hx : (⟨b, ty, cs, cp⟩ : Blk) ∈ L) (hv : cs[i]? = some v) (K : Value → Prop) (t : Tok K) : xFind L b i K t = K v := by
  simp [xFind, findOwn_mem hty nd hx, hv]
end Go.X
/- Contracts of a tray that is none. Conditions: the tray is nil, or the zero tray of the call's own. -/
set_option linter.unusedVariables false
set_option linter.unusedSimpArgs false
set_option maxRecDepth 20000
namespace Go.X
open Go.RowKit Go.Proofs Go.Bl
variable {L : Own} {h : PH} {K : PK}
abbrev trayB (b : Nat) (most put : Int) (v : Value) : Blk := ⟨b, 111, [.int .i64 most, .int .i64 put, v], 3⟩
def NoTray (t : Value) (L : Own) : Prop := t = .pointer none ∨ ∃ b, t = .pointer (some ⟨b, 0, none⟩) ∧ trayB b 0 0 (.slice none 0 0) ∈ L
theorem NoTray.cons {t : Value} {L : Own} (x : Blk) (h0 : NoTray t L) : NoTray t (x :: L) := by
  rcases h0 with h0 | ⟨b, h1, h2⟩
  · exact Or.inl h0
  · exact Or.inr ⟨b, h1, List.mem_cons_of_mem _ h2⟩
theorem is0_any {t : Value} (h0 : NoTray t L) (hk : K (.bool false) L h) : Spec Tryz.prog 143 [t] L h K := by
  rcases h0 with rfl | ⟨b, rfl, hm⟩
  · refine x_enter Tryz.func143 rfl (rs := [_]) rfl rfl mixed (by kernel_rfl) rfl rfl ?_
    simp -dsimp -implicitDefEqProofs (disch := first | with_reducible assumption | omega) [go_sem]
    exact fin_here hk
  · refine x_enterA Tryz.func143 rfl (rs := [_]) rfl rfl mixed (by kernel_rfl) rfl rfl fun ap nd => ?_
    have hb : h b = noC := Ap.mem' ap _ hm
    have fm := xFind_mem (i := 0) (by decide) nd hm rfl
    clear ap nd
    simp -dsimp -implicitDefEqProofs (disch := first | with_reducible assumption | omega) [go_sem, fm]
    exact fin_here hk
theorem put0_any {t : Value} {d : DeedD} {bv : Value} {u : Int} (h0 : NoTray t L) (hk : K (.tuple #[.int .i64 0, .int .i64 1]) L h) : Spec Tryz.prog 42 [t, deedV d bv, .int .u64 u] L h K := by
  refine x_enter Tryz.func42 rfl (rs := [_, _]) rfl rfl mixed (by kernel_rfl) rfl rfl ?_
  simp -dsimp -implicitDefEqProofs (disch := first | with_reducible assumption | omega) [go_sem]
  refine xnew fun b4 n_b4 h_b4 => ?_
  try simp only [Apart] at n_b4
  simp -dsimp -implicitDefEqProofs (disch := first | with_reducible assumption | omega) [go_sem]
  refine is0_any (h0.cons _) ?_
  simp -dsimp -implicitDefEqProofs (disch := first | with_reducible assumption | omega) [go_sem]
  exact fin_tail (fin_here hk)
theorem build0_any {t : Value} {s : StD} {v : SV} {i : Int} (h0 : NoTray t L) (hk : K (.tuple #[.slice none 0 0, .slice none 0 0, .int .i64 1]) L h) : Spec Tryz.prog 43 [t, stV s v, .int .i64 i] L h K := by
  refine x_enter Tryz.func43 rfl (rs := [_, _, _]) rfl rfl mixed (by kernel_rfl) rfl rfl ?_
  simp -dsimp -implicitDefEqProofs (disch := first | with_reducible assumption | omega) [go_sem]
  refine xnew fun b4 n_b4 h_b4 => ?_
  try simp only [Apart] at n_b4
  simp -dsimp -implicitDefEqProofs (disch := first | with_reducible assumption | omega) [go_sem]
  refine is0_any (h0.cons _) ?_
  simp -dsimp -implicitDefEqProofs (disch := first | with_reducible assumption | omega) [go_sem]
  exact fin_tail (fin_here hk)
theorem drop0_any {t : Value} {i : Int} (h0 : NoTray t L) (hk : K (.bool false) L h) : Spec Tryz.prog 44 [t, .int .i64 i] L h K := by
  refine x_enter Tryz.func44 rfl (rs := [_]) rfl rfl mixed (by kernel_rfl) rfl rfl ?_
  simp -dsimp -implicitDefEqProofs (disch := first | with_reducible assumption | omega) [go_sem]
  refine xnew fun b3 n_b3 h_b3 => ?_
  try simp only [Apart] at n_b3
  simp -dsimp -implicitDefEqProofs (disch := first | with_reducible assumption | omega) [go_sem]
  refine is0_any (h0.cons _) ?_
  simp -dsimp -implicitDefEqProofs (disch := first | with_reducible assumption | omega) [go_sem]
  exact fin_tail (fin_here hk)
theorem list0_any {t : Value} (h0 : NoTray t L) (hk : K (.slice none 0 0) L h) : Spec Tryz.prog 45 [t] L h K := by
  refine x_enter Tryz.func45 rfl (rs := [_]) rfl rfl mixed (by kernel_rfl) rfl rfl ?_
  simp -dsimp -implicitDefEqProofs (disch := first | with_reducible assumption | omega) [go_sem]
  refine is0_any h0 ?_
  simp -dsimp -implicitDefEqProofs (disch := first | with_reducible assumption | omega) [go_sem]
  exact fin_here hk
theorem len0_any {t : Value} (h0 : NoTray t L) (hk : K (.int .i64 0) L h) : Spec Tryz.prog 46 [t] L h K := by
  refine x_enter Tryz.func46 rfl (rs := [_]) rfl rfl mixed (by kernel_rfl) rfl rfl ?_
  simp -dsimp -implicitDefEqProofs (disch := first | with_reducible assumption | omega) [go_sem]
  refine is0_any h0 ?_
  simp -dsimp -implicitDefEqProofs (disch := first | with_reducible assumption | omega) [go_sem]
  exact fin_here hk
theorem stale0_any {t : Value} {s : StD} {v : SV} (h0 : NoTray t L) (hk : K (.slice none 0 0) L h) : Spec Tryz.prog 47 [t, stV s v] L h K := by
  refine x_enter Tryz.func47 rfl (rs := [_]) rfl rfl mixed (by kernel_rfl) rfl rfl ?_
  simp -dsimp -implicitDefEqProofs (disch := first | with_reducible assumption | omega) [go_sem]
  refine xnew fun b3 n_b3 h_b3 => ?_
  try simp only [Apart] at n_b3
  simp -dsimp -implicitDefEqProofs (disch := first | with_reducible assumption | omega) [go_sem]
  refine is0_any (h0.cons _) ?_
  simp -dsimp -implicitDefEqProofs (disch := first | with_reducible assumption | omega) [go_sem]
  exact fin_tail (fin_here hk)
end Go.X
/- Contracts of image.motion for the image's writer, and of the lists of motions. Conditions: the writer is the call's own, the motion is known. -/
set_option linter.unusedVariables false
set_option linter.unusedSimpArgs false
set_option maxRecDepth 20000
namespace Go.X
open Go.RowKit Go.Proofs Go.Bl
variable {L : Own} {h : PH} {K : PK}
/-- a motion that may be written -/
structure MotW (m : MotD) : Prop where
  acct : 0 ≤ m.acct ∧ m.acct ≤ 9223372036854775807
  what : 0 ≤ m.what ∧ m.what ≤ 9223372036854775807
  par : m.what = 1 → parR m.par = true
  to : 0 ≤ m.to ∧ m.to ≤ 9223372036854775807
  amt : 0 ≤ m.amt ∧ m.amt ≤ 18446744073709551615
  ends : 0 ≤ m.ends ∧ m.ends ≤ 9223372036854775807
  due : 0 ≤ m.due ∧ m.due ≤ 9223372036854775807
  state : 0 ≤ m.state ∧ m.state ≤ 9223372036854775807
  yes : m.yes.length ≤ 50
  no : m.no.length ≤ 50
  p : ParOk m.par
theorem ElC.par {a : Addr} {q : QM} (he : ElC h a (motC q)) (zz : List Value) (by' : Nat) (L : Own) (K : Value → Prop) (t : Tok K) : xLd ⟨24, true, zz, by'⟩ L h (some (a.add 2)) K t = K (parV q.2.2.par) := by
  have e : ∀ m, m < 24 → (motC q)[2 + m]? = (parC q.2.2.par)[m]? := fun m hm => by
    rcases (show m = 0 ∨ m = 1 ∨ m = 2 ∨ m = 3 ∨ m = 4 ∨ m = 5 ∨ m = 6 ∨ m = 7 ∨ m = 8 ∨ m = 9 ∨ m = 10 ∨ m = 11 ∨ m = 12 ∨ m = 13 ∨ m = 14 ∨ m = 15 ∨ m = 16 ∨ m = 17 ∨ m = 18 ∨ m = 19 ∨ m = 20 ∨ m = 21 ∨ m = 22 ∨ m = 23 by omega) with rfl | rfl | rfl | rfl | rfl | rfl | rfl | rfl | rfl | rfl | rfl | rfl | rfl | rfl | rfl | rfl | rfl | rfl | rfl | rfl | rfl | rfl | rfl | rfl <;> rfl
  rw [xLd_agg]
  show xCells L h (elem (some a) 2) 0 24 _ = _
  rw [xCells_elem 24 0 (parC q.2.2.par) _ rfl fun m hm => by
    rw [Nat.zero_add]
    have h1 := e m hm
    obtain ⟨v, hv⟩ : ∃ v, (parC q.2.2.par)[m]? = some v := ⟨_, List.getElem?_eq_getElem (by show m < 24; exact hm)⟩
    rw [hv] at h1 ⊢
    exact he _ _ h1]
end Go.X

/- Lemmas and contracts for a statement about the given program. Conditions: as each says. -/
import Derived.Test.YtkmojeioedjfkaaGreatQ07
import Derived.Test.YtkmojeioedjfkaaGreatQ14
set_option linter.unusedVariables false
set_option linter.unusedSimpArgs false
set_option maxHeartbeats 12800000
set_option maxRecDepth 20000
namespace Go.X
open Go.RowKit Go.Bl
def must (ok : Bool) (n e t : Int) : Int := if ok = false ∧ e = 0 ∧ t = 0 then n else e
def rdMove (xs : List Int) (d : DeedD) (s : Nat × Int) (e : Int) : DeedD × (Nat × Int) × Int :=
 let w := rNum xs s 255
 let d1 := { d with what := w.1 }
 let e1 := must (wi w.1 1 4) 80 e w.2.2
 if e1 = 0 ∧ w.2.2 = 0 then
  if w.1 = 1 then ({ d1 with par := (pRead xs w.2).1 }, (rPar xs w.2).2, must (decide ((pRead xs w.2).2 = 0)) 70 e1 (rPar xs w.2).2.2)
  else if w.1 = 2 then ({ d1 with to := (rNum xs w.2 63).1 }, (rNum xs w.2 63).2, e1)
  else (d1, w.2, e1)
 else (d1, w.2, e1)
def rdBody (xs : List Int) (d : DeedD) (s : Nat × Int) (e : Int) : DeedD × (Nat × Int) × Int :=
 if d.kind = 1 then ({ d with to := (rNum xs s 63).1 }, (rNum xs s 63).2, e)
 else if d.kind = 3 ∨ d.kind = 4 then ({ d with mem := (rNum xs s 127).1 }, (rNum xs s 127).2, e)
 else if d.kind = 6 then rdMove xs d s e
 else if d.kind = 7 then
  let m := rNum xs s 127
  let t := rNum xs m.2 31
  let y := rNum xs t.2 1
  ({ d with mem := m.1, mot := t.1, yes := decide (y.1 = 1) }, y.2, e)
 else (d, s, e)
def rdAmt (xs : List Int) (q : DeedD × (Nat × Int) × Int) : DeedD × (Nat × Int) × Int :=
 if q.2.2 = 0 ∧ q.2.1.2 = 0 ∧ paidD q.1 = true then
  ({ q.1 with amt := (rNum xs q.2.1 4611686018427387904).1 }, (rNum xs q.2.1 4611686018427387904).2, must (decide (0 < (rNum xs q.2.1 4611686018427387904).1)) 80 q.2.2 (rNum xs q.2.1 4611686018427387904).2.2)
 else q
def rdFields (xs : List Int) (d : DeedD) (s : Nat × Int) (e : Int) : DeedD × (Nat × Int) × Int :=
 if d.kind = 5 then ({ d with ep := (rNum xs s 1073741824).1, bits := (rRaw xs (rNum xs s 1073741824).2 32).1 }, (rRaw xs (rNum xs s 1073741824).2 32).2, e)
 else rdAmt xs (rdBody xs { d with acct := (rNum xs s 63).1 } (rNum xs s 63).2 e)
def rdAll (xs : List Int) (s : Nat × Int) : DeedD × (Nat × Int) × Int :=
 let k := rNum xs s 255
 let e := must (wi k.1 1 7) 80 0 k.2.2
 if e = 0 ∧ k.2.2 = 0 then rdFields xs { zeroD with kind := k.1 } k.2 e else ({ zeroD with kind := k.1 }, k.2, e)
def rdDeed (xs : List Int) (s : Nat × Int) : DeedD × Int × (Nat × Int) :=
 let q := rdAll xs s
 if q.2.1.2 ≠ 0 then (zeroD, q.2.1.2, q.2.1) else if q.2.2 ≠ 0 then (zeroD, q.2.2, q.2.1) else (q.1, 0, q.2.1)
open Go.RowKit Go.Proofs Go.Bl
variable {L : Own} {h : PH} {K : PK}
abbrev xO (bx br : Nat) (v : Value) (s : Nat × Int) (e : Int) (L : Own) : Own := ⟨bx, 298, [.pointer (some ⟨br, 0, none⟩), .int .i64 e], 2⟩ :: ⟨br, 214, [v, .int .i64 s.2, .int .i64 s.1], 3⟩ :: L
theorem rflag_any {br : Nat} {v : Value} {xs : List Int} {s : Nat × Int} (hx : Ints h .u8 v xs) (hs : s.1 ≤ xs.length) (hk : K (.bool (decide ((rNum xs s 1).1 = 1))) (rO br v (rNum xs s 1).2 L) h) :
  Spec Tryz.prog 229 [.pointer (some ⟨br, 0, none⟩)] (rO br v s L) h K := by
 refine x_enterA Tryz.func229 rfl (rs := [_]) rfl rfl mixed (by kernel_rfl) rfl rfl fun ap nd => ?_
 simp -dsimp -implicitDefEqProofs (disch := first|with_reducible assumption|omega) [go_sem]
 refine rnum_any hx hs ?_
 simp -dsimp -implicitDefEqProofs (disch := first|with_reducible assumption|omega) [go_sem]
 exact fin_here hk
theorem xacct_any {bx br : Nat} {v : Value} {xs : List Int} {s : Nat × Int} {e : Int} (hx : Ints h .u8 v xs) (hs : s.1 ≤ xs.length) (hk : K (.int .i64 (rNum xs s 63).1) (xO bx br v (rNum xs s 63).2 e L) h) :
  Spec Tryz.prog 226 [.pointer (some ⟨bx, 0, none⟩)] (xO bx br v s e L) h K := by
 simp only [xO] at hk ⊢
 refine x_enterA Tryz.func226 rfl (rs := [_]) rfl rfl mixed (by kernel_rfl) rfl rfl fun ap nd => ?_
 obtain ⟨ap1, ap2, _⟩ := ap
 simp only [Nd, Apart] at nd
 simp -dsimp -implicitDefEqProofs (disch := first|with_reducible assumption|omega) [go_sem]
 refine call_p1 ?_
 refine rint_any (s := s) hx hs (by decide) (by decide) ?_
 simp -dsimp -implicitDefEqProofs (disch := first|with_reducible assumption|omega) [go_sem]
 exact fin_perm (List.Perm.swap _ _ _) (fin_here hk)
theorem xmem_any {bx br : Nat} {v : Value} {xs : List Int} {s : Nat × Int} {e : Int} (hx : Ints h .u8 v xs) (hs : s.1 ≤ xs.length) (hk : K (.int .i64 (rNum xs s 127).1) (xO bx br v (rNum xs s 127).2 e L) h) :
  Spec Tryz.prog 227 [.pointer (some ⟨bx, 0, none⟩)] (xO bx br v s e L) h K := by
 simp only [xO] at hk ⊢
 refine x_enterA Tryz.func227 rfl (rs := [_]) rfl rfl mixed (by kernel_rfl) rfl rfl fun ap nd => ?_
 obtain ⟨ap1, ap2, _⟩ := ap
 simp only [Nd, Apart] at nd
 simp -dsimp -implicitDefEqProofs (disch := first|with_reducible assumption|omega) [go_sem]
 refine call_p1 ?_
 refine rint_any (s := s) hx hs (by decide) (by decide) ?_
 simp -dsimp -implicitDefEqProofs (disch := first|with_reducible assumption|omega) [go_sem]
 exact fin_perm (List.Perm.swap _ _ _) (fin_here hk)
theorem must_any {bx br : Nat} {v : Value} {s : Nat × Int} {e n : Int} (ok : Bool) (hk : K (.tuple #[]) (xO bx br v s (must ok n e s.2) L) h) :
  Spec Tryz.prog 198 [.pointer (some ⟨bx, 0, none⟩), .bool ok, .int .i64 n] (xO bx br v s e L) h K := by
 simp only [xO] at hk ⊢
 unfold must at hk
 refine x_enterA Tryz.func198 rfl (rs := []) rfl rfl mixed (by kernel_rfl) rfl rfl fun ap nd => ?_
 obtain ⟨ap1, ap2, _⟩ := ap
 simp only [Nd, Apart] at nd
 cases ok with
 | true =>
  simp -dsimp -implicitDefEqProofs (disch := first|with_reducible assumption|omega) [go_sem]
  exact fin_here (by simpa using hk)
 | false =>
  by_cases c : e = 0
  ·subst c
   simp -dsimp -implicitDefEqProofs (disch := first|with_reducible assumption|omega) [go_sem]
   refine call_p1 ?_
   refine rerr_any (s := s) ?_
   by_cases c2 : s.2 = 0
   ·simp -dsimp -implicitDefEqProofs (disch := first|with_reducible assumption|omega) [go_sem]
    exact fin_perm (List.Perm.swap _ _ _) (fin_here (by simpa [c2] using hk))
   ·simp -dsimp -implicitDefEqProofs (disch := first|with_reducible assumption|omega) [go_sem]
    exact fin_perm (List.Perm.swap _ _ _) (fin_here (by simpa [c2] using hk))
  ·simp -dsimp -implicitDefEqProofs (disch := first|with_reducible assumption|omega) [go_sem]
   exact fin_here (by simpa [c] using hk)
theorem going_any {bx br : Nat} {v : Value} {s : Nat × Int} {e : Int} (hk : K (.bool (decide (e = 0) && decide (s.2 = 0))) (xO bx br v s e L) h) :
  Spec Tryz.prog 199 [.pointer (some ⟨bx, 0, none⟩)] (xO bx br v s e L) h K := by
 simp only [xO] at hk ⊢
 refine x_enterA Tryz.func199 rfl (rs := [_]) rfl rfl mixed (by kernel_rfl) rfl rfl fun ap nd => ?_
 obtain ⟨ap1, ap2, _⟩ := ap
 simp only [Nd, Apart] at nd
 by_cases c : e = 0
 ·subst c
  simp -dsimp -implicitDefEqProofs (disch := first|with_reducible assumption|omega) [go_sem]
  refine call_p1 ?_
  refine rerr_any (s := s) ?_
  simp -dsimp -implicitDefEqProofs (disch := first|with_reducible assumption|omega) [go_sem]
  exact fin_perm (List.Perm.swap _ _ _) (fin_here (by simpa using hk))
 ·simp -dsimp -implicitDefEqProofs (disch := first|with_reducible assumption|omega) [go_sem]
  exact fin_here (by simpa [c] using hk)
theorem xmove_any {bx br bd : Nat} {v bv : Value} {xs : List Int} {s : Nat × Int} {e : Int} {d : DeedD} (hx : Ints h .u8 v xs) (hs : s.1 ≤ xs.length)
  (hk : ∀ h', PH.le h h' → K (.tuple #[]) (xO bx br v (rdMove xs d s e).2.1 (rdMove xs d s e).2.2 (⟨bd, 52, deedC (rdMove xs d s e).1 bv, 34⟩ :: L)) h') :
  Spec Tryz.prog 228 [.pointer (some ⟨bx, 0, none⟩), .pointer (some ⟨bd, 0, none⟩)] (xO bx br v s e (⟨bd, 52, deedC d bv, 34⟩ :: L)) h K := by
 have hz := byte_of hx
 have pw := rNum_pos xs s 255 hz hs (by decide)
 obtain ⟨w, hw⟩ : ∃ w, w = rNum xs s 255 := ⟨_, rfl⟩
 have hm : rdMove xs d s e = if must (wi w.1 1 4) 80 e w.2.2 = 0 ∧ w.2.2 = 0 then
  if w.1 = 1 then ({ { d with what := w.1 } with par := (pRead xs w.2).1 }, (rPar xs w.2).2, must (decide ((pRead xs w.2).2 = 0)) 70 (must (wi w.1 1 4) 80 e w.2.2) (rPar xs w.2).2.2)
  else if w.1 = 2 then ({ { d with what := w.1 } with to := (rNum xs w.2 63).1 }, (rNum xs w.2 63).2, must (wi w.1 1 4) 80 e w.2.2)
  else ({ d with what := w.1 }, w.2, must (wi w.1 1 4) 80 e w.2.2)
 else ({ d with what := w.1 }, w.2, must (wi w.1 1 4) 80 e w.2.2) := by rw [hw]; rfl
 rw [← hw] at pw
 simp only [xO]
 refine x_enterA Tryz.func228 rfl (rs := []) rfl rfl mixed (by kernel_rfl) rfl rfl fun ap nd => ?_
 obtain ⟨ap1, ap2, ap3, _⟩ := ap
 simp only [Nd, Apart] at nd
 simp -dsimp -implicitDefEqProofs (disch := first|with_reducible assumption|omega) [go_sem]
 refine call_p1 ?_
 refine rint_any (s := s) hx hs (by decide) (by decide) ?_
 rw [← hw]
 simp only [wO, rO, List.cons_append, List.nil_append]
 simp -dsimp -implicitDefEqProofs (disch := first|with_reducible assumption|omega) [go_sem]
 refine dwithin_any _ _ _ ?_
 simp -dsimp -implicitDefEqProofs (disch := first|with_reducible assumption|omega) [go_sem]
 refine call_p1 ?_
 refine must_any (s := w.2) (wi w.1 1 4) ?_
 simp -dsimp -implicitDefEqProofs (disch := first|with_reducible assumption|omega) [go_sem]
 refine going_any (s := w.2) ?_
 by_cases c : must (wi w.1 1 4) 80 e w.2.2 = 0 ∧ w.2.2 = 0
 rotate_left
 ·rw [if_neg c] at hm
  rw [hm] at hk
  have cb : (decide (must (wi w.1 1 4) 80 e w.2.2 = 0) && decide (w.2.2 = 0)) = false := by rw [← Bool.decide_and]; exact decide_eq_false c
  rw [cb]
  simp -dsimp -implicitDefEqProofs (disch := first|with_reducible assumption|omega) [go_sem]
  exact fin_here (hk h (PH.le_refl h))
 rw [if_pos c] at hm
 obtain ⟨c1, c2⟩ := c
 by_cases w1 : w.1 = 1
 ·rw [if_pos w1] at hm
  rw [hm] at hk
  simp -dsimp -implicitDefEqProofs (disch := first|with_reducible assumption|omega) [go_sem]
  refine call_p1 ?_
  refine Spec.apn (pread_any (s := w.2) hx pw.1 fun h2 le2 ap nd => ?_)
  obtain ⟨q2, q1, q3, _⟩ := ap
  simp only [Nd, Apart] at nd
  simp only [wO, rO, List.cons_append, List.nil_append]
  simp -dsimp -implicitDefEqProofs (disch := first|with_reducible assumption|omega) [go_sem]
  refine xnew fun b7 n_b7 h_b7 => ?_
  try simp only [Apart] at n_b7
  simp -dsimp -implicitDefEqProofs (disch := first|with_reducible assumption|omega) [go_sem]
  refine call_drop ?_
  refine call_p1 ?_
  refine must_any (s := (rPar xs w.2).2) (decide ((pRead xs w.2).2 = 0)) ?_
  simp -dsimp -implicitDefEqProofs (disch := first|with_reducible assumption|omega) [go_sem]
  exact fin_here (hk h2 le2)
 by_cases w2 : w.1 = 2
 ·rw [if_neg w1, if_pos w2] at hm
  rw [hm] at hk
  simp -dsimp -implicitDefEqProofs (disch := first|with_reducible assumption|omega) [go_sem]
  refine xacct_any (s := w.2) hx pw.1 ?_
  simp -dsimp -implicitDefEqProofs (disch := first|with_reducible assumption|omega) [go_sem]
  exact fin_here (hk h (PH.le_refl h))
 ·rw [if_neg w1, if_neg w2] at hm
  rw [hm] at hk
  simp -dsimp -implicitDefEqProofs (disch := first|with_reducible assumption|omega) [go_sem]
  exact fin_here (hk h (PH.le_refl h))
theorem paid0_any (d : DeedD) (hk : K (.bool (paidD d)) L h) : Spec Tryz.prog 112 [deedV d (.slice none 0 0)] L h K := by
 unfold paidD at hk
 refine x_enter Tryz.func112 rfl (rs := [_]) rfl rfl mixed (by kernel_rfl) rfl rfl ?_
 simp -dsimp -implicitDefEqProofs (disch := first|with_reducible assumption|omega) [go_sem]
 refine xnew fun b1 n_b1 h_b1 => ?_
 try simp only [Apart] at n_b1
 simp -dsimp -implicitDefEqProofs (disch := first|with_reducible assumption|omega) [go_sem]
 refine dwithin_any _ _ _ ?_
 cases hw : wi d.kind 1 3 with
 | true =>
  rw [hw] at hk
  simp -dsimp -implicitDefEqProofs (disch := first|with_reducible assumption|omega) [go_sem]
  exact fin_tail (fin_here hk)
 | false =>
  rw [hw] at hk
  by_cases k6 : d.kind = 6
  ·simp -dsimp -implicitDefEqProofs (disch := first|with_reducible assumption|omega) [go_sem]
   exact fin_tail (fin_here (by simpa [k6] using hk))
  ·simp -dsimp -implicitDefEqProofs (disch := first|with_reducible assumption|omega) [go_sem]
   exact fin_tail (fin_here (by simpa [k6] using hk))
theorem rdMove_pos {xs : List Int} {d : DeedD} {s : Nat × Int} {e : Int} (hz : ∀ z ∈ xs, 0 ≤ z ∧ z ≤ 255) (hs : s.1 ≤ xs.length) : (rdMove xs d s e).2.1.1 ≤ xs.length ∧ (rdMove xs d s e).1.bits = d.bits := by
 have pw := rNum_pos xs s 255 hz hs (by decide)
 simp only [rdMove]
 split
 ·split
  ·exact ⟨(rPar_ok hz pw.1).2, rfl⟩
  ·split
   ·exact ⟨(rNum_pos xs _ 63 hz pw.1 (by decide)).1, rfl⟩
   ·exact ⟨pw.1, rfl⟩
 ·exact ⟨pw.1, rfl⟩
theorem xfields_any {bx br bd : Nat} {v : Value} {xs : List Int} {s : Nat × Int} {e : Int} {d : DeedD} (hb : d.bits = []) (hx : Ints h .u8 v xs) (hs : s.1 ≤ xs.length)
  (hk : ∀ h' bv, PH.le h h' → Ints h' .u8 bv (rdFields xs d s e).1.bits → K (.tuple #[]) (xO bx br v (rdFields xs d s e).2.1 (rdFields xs d s e).2.2 (⟨bd, 52, deedC (rdFields xs d s e).1 bv, 34⟩ :: L)) h') :
  Spec Tryz.prog 200 [.pointer (some ⟨bx, 0, none⟩), .pointer (some ⟨bd, 0, none⟩)] (xO bx br v s e (⟨bd, 52, deedC d (.slice none 0 0), 34⟩ :: L)) h K := by
 have hz := byte_of hx
 refine x_enterA Tryz.func200 rfl (rs := []) rfl rfl mixed (by kernel_rfl) rfl rfl fun ap nd => ?_
 obtain ⟨ap1, ap2, ap3, _⟩ := ap
 simp only [Nd, Apart] at nd
 simp only [xO]
 simp -dsimp -implicitDefEqProofs (disch := first|with_reducible assumption|omega) [go_sem]
 by_cases kd5 : d.kind = 5
 ·have hf : rdFields xs d s e = ({ d with ep := (rNum xs s 1073741824).1, bits := (rRaw xs (rNum xs s 1073741824).2 32).1 }, (rRaw xs (rNum xs s 1073741824).2 32).2, e) := by simp [rdFields, kd5]
  have pa := rNum_pos xs s 1073741824 hz hs (by decide)
  rw [hf] at hk
  simp only at hk
  simp -dsimp -implicitDefEqProofs (disch := first|with_reducible assumption|omega) [go_sem]
  refine call_p1 ?_
  refine rint_any (s := s) hx hs (by decide) (by decide) ?_
  simp only [wO, rO, List.cons_append, List.nil_append]
  simp -dsimp -implicitDefEqProofs (disch := first|with_reducible assumption|omega) [go_sem]
  refine Spec.apn (rraw_any (s := (rNum xs s 1073741824).2) hx pa.1 (by decide) (by decide) fun h2 r le2 hr2 ap nd' => ?_)
  obtain ⟨q2, q1, q3, _⟩ := ap
  have hr2' := hr2
  have or2 := hr2.open
  obtain ⟨y1, y2, rfl, _⟩ := or2
  simp only [wO, rO, List.cons_append, List.nil_append]
  simp -dsimp -implicitDefEqProofs (disch := first|with_reducible assumption|omega) [go_sem]
  exact fin_perm (List.Perm.swap _ _ _) (fin_here (hk h2 _ le2 hr2'))
 have pa := rNum_pos xs s 63 hz hs (by decide)
 obtain ⟨ra, hra⟩ : ∃ ra, ra = rNum xs s 63 := ⟨_, rfl⟩
 rw [← hra] at pa
 simp -dsimp -implicitDefEqProofs (disch := first|with_reducible assumption|omega) [go_sem]
 refine xacct_any (s := s) hx hs ?_
 rw [← hra]
 have hf : rdFields xs d s e = rdAmt xs (rdBody xs ({ d with acct := ra.1 } : DeedD) ra.2 e) := by rw [hra]; simp [rdFields, kd5]
 rw [hf] at hk
 by_cases kd1 : d.kind = 1
 ·have pb := rNum_pos xs ra.2 63 hz pa.1 (by decide)
  simp -dsimp -implicitDefEqProofs (disch := first|with_reducible assumption|omega) [go_sem]
  refine xacct_any (s := ra.2) hx pa.1 ?_
  simp -dsimp -implicitDefEqProofs (disch := first|with_reducible assumption|omega) [go_sem]
  have hbody : rdBody xs ({ d with acct := ra.1 } : DeedD) ra.2 e = (({ d with acct := ra.1, to := (rNum xs ra.2 63).1 } : DeedD), (rNum xs ra.2 63).2, e) := by simp [rdBody, kd1]
  rw [hbody] at hk
  refine going_any (s := (rNum xs ra.2 63).2) ?_
  by_cases c : e = 0 ∧ ((rNum xs ra.2 63).2).2 = 0
  rotate_left
  ·have cb : (decide (e = 0) && decide (((rNum xs ra.2 63).2).2 = 0)) = false := by rw [← Bool.decide_and]; exact decide_eq_false c
   rw [cb]
   have hq : rdAmt xs (({ d with acct := ra.1, to := (rNum xs ra.2 63).1 } : DeedD), (rNum xs ra.2 63).2, e) = (({ d with acct := ra.1, to := (rNum xs ra.2 63).1 } : DeedD), (rNum xs ra.2 63).2, e) := by
    unfold rdAmt
    rw [if_neg (fun hh => c ⟨hh.1, hh.2.1⟩)]
   rw [hq] at hk
   simp -dsimp -implicitDefEqProofs (disch := first|with_reducible assumption|omega) [go_sem]
   exact fin_here (hk h _ (PH.le_refl h) (by simp only [hb]; exact nil_ints _ .u8))
  obtain ⟨c1, c2⟩ := c
  have cb : (decide (e = 0) && decide (((rNum xs ra.2 63).2).2 = 0)) = true := by rw [← Bool.decide_and]; exact decide_eq_true ⟨c1, c2⟩
  rw [cb]
  simp -dsimp -implicitDefEqProofs (disch := first|with_reducible assumption|omega) [go_sem]
  refine paid0_any ({ d with acct := ra.1, to := (rNum xs ra.2 63).1 } : DeedD) ?_
  cases cp : paidD ({ d with acct := ra.1, to := (rNum xs ra.2 63).1 } : DeedD) with
  | false =>
   have hq : rdAmt xs (({ d with acct := ra.1, to := (rNum xs ra.2 63).1 } : DeedD), (rNum xs ra.2 63).2, e) = (({ d with acct := ra.1, to := (rNum xs ra.2 63).1 } : DeedD), (rNum xs ra.2 63).2, e) := by
    unfold rdAmt
    rw [if_neg (fun hh => by have := hh.2.2; simp only at this; rw [cp] at this; cases this)]
   rw [hq] at hk
   simp -dsimp -implicitDefEqProofs (disch := first|with_reducible assumption|omega) [go_sem]
   exact fin_here (hk h _ (PH.le_refl h) (by simp only [hb]; exact nil_ints _ .u8))
  | true =>
   have hq : rdAmt xs (({ d with acct := ra.1, to := (rNum xs ra.2 63).1 } : DeedD), (rNum xs ra.2 63).2, e) = ({ ({ d with acct := ra.1, to := (rNum xs ra.2 63).1 } : DeedD) with amt := (rNum xs ((rNum xs ra.2 63).2) 4611686018427387904).1 }, (rNum xs ((rNum xs ra.2 63).2) 4611686018427387904).2, must (decide (0 < (rNum xs ((rNum xs ra.2 63).2) 4611686018427387904).1)) 80 e (rNum xs ((rNum xs ra.2 63).2) 4611686018427387904).2.2) := by
    unfold rdAmt
    rw [if_pos ⟨c1, c2, cp⟩]
   rw [hq] at hk
   simp -dsimp -implicitDefEqProofs (disch := first|with_reducible assumption|omega) [go_sem]
   refine call_p1 ?_
   refine rnum_any (s := (rNum xs ra.2 63).2) hx pb.1 ?_
   simp only [wO, rO, List.cons_append, List.nil_append]
   simp -dsimp -implicitDefEqProofs (disch := first|with_reducible assumption|omega) [go_sem]
   refine call_p1 ?_
   refine must_any (s := (rNum xs ((rNum xs ra.2 63).2) 4611686018427387904).2) _ ?_
   simp -dsimp -implicitDefEqProofs (disch := first|with_reducible assumption|omega) [go_sem]
   exact fin_here (hk h _ (PH.le_refl h) (by simp only [hb]; exact nil_ints _ .u8))
 by_cases kd34 : d.kind = 3 ∨ d.kind = 4
 ·have pb := rNum_pos xs ra.2 127 hz pa.1 (by decide)
  have hbody : rdBody xs ({ d with acct := ra.1 } : DeedD) ra.2 e = (({ d with acct := ra.1, mem := (rNum xs ra.2 127).1 } : DeedD), (rNum xs ra.2 127).2, e) := by simp [rdBody, kd1, kd34]
  rcases kd34 with kd3 | kd3
  all_goals
   simp -dsimp -implicitDefEqProofs (disch := first|with_reducible assumption|omega) [go_sem]
   refine xmem_any (s := ra.2) hx pa.1 ?_
   simp -dsimp -implicitDefEqProofs (disch := first|with_reducible assumption|omega) [go_sem]
   have hbody : rdBody xs ({ d with acct := ra.1 } : DeedD) ra.2 e = (({ d with acct := ra.1, mem := (rNum xs ra.2 127).1 } : DeedD), (rNum xs ra.2 127).2, e) := by exact hbody
   rw [hbody] at hk
   refine going_any (s := (rNum xs ra.2 127).2) ?_
   by_cases c : e = 0 ∧ ((rNum xs ra.2 127).2).2 = 0
   rotate_left
   ·have cb : (decide (e = 0) && decide (((rNum xs ra.2 127).2).2 = 0)) = false := by rw [← Bool.decide_and]; exact decide_eq_false c
    rw [cb]
    have hq : rdAmt xs (({ d with acct := ra.1, mem := (rNum xs ra.2 127).1 } : DeedD), (rNum xs ra.2 127).2, e) = (({ d with acct := ra.1, mem := (rNum xs ra.2 127).1 } : DeedD), (rNum xs ra.2 127).2, e) := by
     unfold rdAmt
     rw [if_neg (fun hh => c ⟨hh.1, hh.2.1⟩)]
    rw [hq] at hk
    simp -dsimp -implicitDefEqProofs (disch := first|with_reducible assumption|omega) [go_sem]
    exact fin_here (hk h _ (PH.le_refl h) (by simp only [hb]; exact nil_ints _ .u8))
   obtain ⟨c1, c2⟩ := c
   have cb : (decide (e = 0) && decide (((rNum xs ra.2 127).2).2 = 0)) = true := by rw [← Bool.decide_and]; exact decide_eq_true ⟨c1, c2⟩
   rw [cb]
   simp -dsimp -implicitDefEqProofs (disch := first|with_reducible assumption|omega) [go_sem]
   refine paid0_any ({ d with acct := ra.1, mem := (rNum xs ra.2 127).1 } : DeedD) ?_
   cases cp : paidD ({ d with acct := ra.1, mem := (rNum xs ra.2 127).1 } : DeedD) with
   | false =>
    have hq : rdAmt xs (({ d with acct := ra.1, mem := (rNum xs ra.2 127).1 } : DeedD), (rNum xs ra.2 127).2, e) = (({ d with acct := ra.1, mem := (rNum xs ra.2 127).1 } : DeedD), (rNum xs ra.2 127).2, e) := by
     unfold rdAmt
     rw [if_neg (fun hh => by have := hh.2.2; simp only at this; rw [cp] at this; cases this)]
    rw [hq] at hk
    simp -dsimp -implicitDefEqProofs (disch := first|with_reducible assumption|omega) [go_sem]
    exact fin_here (hk h _ (PH.le_refl h) (by simp only [hb]; exact nil_ints _ .u8))
   | true =>
    have hq : rdAmt xs (({ d with acct := ra.1, mem := (rNum xs ra.2 127).1 } : DeedD), (rNum xs ra.2 127).2, e) = ({ ({ d with acct := ra.1, mem := (rNum xs ra.2 127).1 } : DeedD) with amt := (rNum xs ((rNum xs ra.2 127).2) 4611686018427387904).1 }, (rNum xs ((rNum xs ra.2 127).2) 4611686018427387904).2, must (decide (0 < (rNum xs ((rNum xs ra.2 127).2) 4611686018427387904).1)) 80 e (rNum xs ((rNum xs ra.2 127).2) 4611686018427387904).2.2) := by
     unfold rdAmt
     rw [if_pos ⟨c1, c2, cp⟩]
    rw [hq] at hk
    simp -dsimp -implicitDefEqProofs (disch := first|with_reducible assumption|omega) [go_sem]
    refine call_p1 ?_
    refine rnum_any (s := (rNum xs ra.2 127).2) hx pb.1 ?_
    simp only [wO, rO, List.cons_append, List.nil_append]
    simp -dsimp -implicitDefEqProofs (disch := first|with_reducible assumption|omega) [go_sem]
    refine call_p1 ?_
    refine must_any (s := (rNum xs ((rNum xs ra.2 127).2) 4611686018427387904).2) _ ?_
    simp -dsimp -implicitDefEqProofs (disch := first|with_reducible assumption|omega) [go_sem]
    exact fin_here (hk h _ (PH.le_refl h) (by simp only [hb]; exact nil_ints _ .u8))
 by_cases kd6 : d.kind = 6
 ·obtain ⟨q, hq6⟩ : ∃ q, q = rdMove xs ({ d with acct := ra.1 } : DeedD) ra.2 e := ⟨_, rfl⟩
  have pq := rdMove_pos (d := ({ d with acct := ra.1 } : DeedD)) (e := e) hz pa.1
  rw [← hq6] at pq
  have hqb : q.1.bits = [] := by rw [pq.2]; exact hb
  simp -dsimp -implicitDefEqProofs (disch := first|with_reducible assumption|omega) [go_sem]
  refine Spec.apn (xmove_any (d := ({ d with acct := ra.1 } : DeedD)) (s := ra.2) hx pa.1 fun h2 le2 ap nd' => ?_)
  rw [← hq6] at ap nd' ⊢
  obtain ⟨q2, q1, q3, _⟩ := ap
  simp only [Nd, Apart] at nd'
  simp only [xO]
  simp -dsimp -implicitDefEqProofs (disch := first|with_reducible assumption|omega) [go_sem]
  have hbody : rdBody xs ({ d with acct := ra.1 } : DeedD) ra.2 e = (q.1, q.2.1, q.2.2) := by rw [hq6]; simp [rdBody, kd1, kd34, kd6]
  rw [hbody] at hk
  refine going_any (s := q.2.1) ?_
  by_cases c : q.2.2 = 0 ∧ (q.2.1).2 = 0
  rotate_left
  ·have cb : (decide (q.2.2 = 0) && decide ((q.2.1).2 = 0)) = false := by rw [← Bool.decide_and]; exact decide_eq_false c
   rw [cb]
   have hq : rdAmt xs (q.1, q.2.1, q.2.2) = (q.1, q.2.1, q.2.2) := by
    unfold rdAmt
    rw [if_neg (fun hh => c ⟨hh.1, hh.2.1⟩)]
   rw [hq] at hk
   simp -dsimp -implicitDefEqProofs (disch := first|with_reducible assumption|omega) [go_sem]
   exact fin_here (hk h2 _ le2 (by simp only [hqb]; exact nil_ints _ .u8))
  obtain ⟨c1, c2⟩ := c
  have cb : (decide (q.2.2 = 0) && decide ((q.2.1).2 = 0)) = true := by rw [← Bool.decide_and]; exact decide_eq_true ⟨c1, c2⟩
  rw [cb]
  simp -dsimp -implicitDefEqProofs (disch := first|with_reducible assumption|omega) [go_sem]
  refine paid0_any q.1 ?_
  cases cp : paidD q.1 with
  | false =>
   have hq : rdAmt xs (q.1, q.2.1, q.2.2) = (q.1, q.2.1, q.2.2) := by
    unfold rdAmt
    rw [if_neg (fun hh => by have := hh.2.2; simp only at this; rw [cp] at this; cases this)]
   rw [hq] at hk
   simp -dsimp -implicitDefEqProofs (disch := first|with_reducible assumption|omega) [go_sem]
   exact fin_here (hk h2 _ le2 (by simp only [hqb]; exact nil_ints _ .u8))
  | true =>
   have hq : rdAmt xs (q.1, q.2.1, q.2.2) = ({ q.1 with amt := (rNum xs (q.2.1) 4611686018427387904).1 }, (rNum xs (q.2.1) 4611686018427387904).2, must (decide (0 < (rNum xs (q.2.1) 4611686018427387904).1)) 80 q.2.2 (rNum xs (q.2.1) 4611686018427387904).2.2) := by
    unfold rdAmt
    rw [if_pos ⟨c1, c2, cp⟩]
   rw [hq] at hk
   simp -dsimp -implicitDefEqProofs (disch := first|with_reducible assumption|omega) [go_sem]
   refine call_p1 ?_
   refine rnum_any (s := q.2.1) (hx.up le2) pq.1 ?_
   simp only [wO, rO, List.cons_append, List.nil_append]
   simp -dsimp -implicitDefEqProofs (disch := first|with_reducible assumption|omega) [go_sem]
   refine call_p1 ?_
   refine must_any (s := (rNum xs (q.2.1) 4611686018427387904).2) _ ?_
   simp -dsimp -implicitDefEqProofs (disch := first|with_reducible assumption|omega) [go_sem]
   exact fin_here (hk h2 _ le2 (by simp only [hqb]; exact nil_ints _ .u8))
 by_cases kd7 : d.kind = 7
 ·have pb := rNum_pos xs ra.2 127 hz pa.1 (by decide)
  have pc := rNum_pos xs (rNum xs ra.2 127).2 31 hz pb.1 (by decide)
  have pd := rNum_pos xs (rNum xs (rNum xs ra.2 127).2 31).2 1 hz pc.1 (by decide)
  simp -dsimp -implicitDefEqProofs (disch := first|with_reducible assumption|omega) [go_sem]
  refine xmem_any (s := ra.2) hx pa.1 ?_
  simp -dsimp -implicitDefEqProofs (disch := first|with_reducible assumption|omega) [go_sem]
  refine call_p1 ?_
  refine rint_any (s := (rNum xs ra.2 127).2) hx pb.1 (by decide) (by decide) ?_
  simp only [wO, rO, List.cons_append, List.nil_append]
  simp -dsimp -implicitDefEqProofs (disch := first|with_reducible assumption|omega) [go_sem]
  refine rflag_any (s := (rNum xs (rNum xs ra.2 127).2 31).2) hx pc.1 ?_
  simp only [wO, rO, List.cons_append, List.nil_append]
  simp -dsimp -implicitDefEqProofs (disch := first|with_reducible assumption|omega) [go_sem]
  refine call_p1 ?_
  have hbody : rdBody xs ({ d with acct := ra.1 } : DeedD) ra.2 e = (({ d with acct := ra.1, mem := (rNum xs ra.2 127).1, mot := (rNum xs (rNum xs ra.2 127).2 31).1, yes := decide ((rNum xs (rNum xs (rNum xs ra.2 127).2 31).2 1).1 = 1) } : DeedD), (rNum xs (rNum xs (rNum xs ra.2 127).2 31).2 1).2, e) := by simp [rdBody, kd1, kd34, kd6, kd7]
  rw [hbody] at hk
  refine going_any (s := (rNum xs (rNum xs (rNum xs ra.2 127).2 31).2 1).2) ?_
  by_cases c : e = 0 ∧ ((rNum xs (rNum xs (rNum xs ra.2 127).2 31).2 1).2).2 = 0
  rotate_left
  ·have cb : (decide (e = 0) && decide (((rNum xs (rNum xs (rNum xs ra.2 127).2 31).2 1).2).2 = 0)) = false := by rw [← Bool.decide_and]; exact decide_eq_false c
   rw [cb]
   have hq : rdAmt xs (({ d with acct := ra.1, mem := (rNum xs ra.2 127).1, mot := (rNum xs (rNum xs ra.2 127).2 31).1, yes := decide ((rNum xs (rNum xs (rNum xs ra.2 127).2 31).2 1).1 = 1) } : DeedD), (rNum xs (rNum xs (rNum xs ra.2 127).2 31).2 1).2, e) = (({ d with acct := ra.1, mem := (rNum xs ra.2 127).1, mot := (rNum xs (rNum xs ra.2 127).2 31).1, yes := decide ((rNum xs (rNum xs (rNum xs ra.2 127).2 31).2 1).1 = 1) } : DeedD), (rNum xs (rNum xs (rNum xs ra.2 127).2 31).2 1).2, e) := by
    unfold rdAmt
    rw [if_neg (fun hh => c ⟨hh.1, hh.2.1⟩)]
   rw [hq] at hk
   simp -dsimp -implicitDefEqProofs (disch := first|with_reducible assumption|omega) [go_sem]
   exact fin_here (hk h _ (PH.le_refl h) (by simp only [hb]; exact nil_ints _ .u8))
  obtain ⟨c1, c2⟩ := c
  have cb : (decide (e = 0) && decide (((rNum xs (rNum xs (rNum xs ra.2 127).2 31).2 1).2).2 = 0)) = true := by rw [← Bool.decide_and]; exact decide_eq_true ⟨c1, c2⟩
  rw [cb]
  simp -dsimp -implicitDefEqProofs (disch := first|with_reducible assumption|omega) [go_sem]
  refine paid0_any ({ d with acct := ra.1, mem := (rNum xs ra.2 127).1, mot := (rNum xs (rNum xs ra.2 127).2 31).1, yes := decide ((rNum xs (rNum xs (rNum xs ra.2 127).2 31).2 1).1 = 1) } : DeedD) ?_
  cases cp : paidD ({ d with acct := ra.1, mem := (rNum xs ra.2 127).1, mot := (rNum xs (rNum xs ra.2 127).2 31).1, yes := decide ((rNum xs (rNum xs (rNum xs ra.2 127).2 31).2 1).1 = 1) } : DeedD) with
  | false =>
   have hq : rdAmt xs (({ d with acct := ra.1, mem := (rNum xs ra.2 127).1, mot := (rNum xs (rNum xs ra.2 127).2 31).1, yes := decide ((rNum xs (rNum xs (rNum xs ra.2 127).2 31).2 1).1 = 1) } : DeedD), (rNum xs (rNum xs (rNum xs ra.2 127).2 31).2 1).2, e) = (({ d with acct := ra.1, mem := (rNum xs ra.2 127).1, mot := (rNum xs (rNum xs ra.2 127).2 31).1, yes := decide ((rNum xs (rNum xs (rNum xs ra.2 127).2 31).2 1).1 = 1) } : DeedD), (rNum xs (rNum xs (rNum xs ra.2 127).2 31).2 1).2, e) := by
    unfold rdAmt
    rw [if_neg (fun hh => by have := hh.2.2; simp only at this; rw [cp] at this; cases this)]
   rw [hq] at hk
   simp -dsimp -implicitDefEqProofs (disch := first|with_reducible assumption|omega) [go_sem]
   exact fin_here (hk h _ (PH.le_refl h) (by simp only [hb]; exact nil_ints _ .u8))
  | true =>
   have hq : rdAmt xs (({ d with acct := ra.1, mem := (rNum xs ra.2 127).1, mot := (rNum xs (rNum xs ra.2 127).2 31).1, yes := decide ((rNum xs (rNum xs (rNum xs ra.2 127).2 31).2 1).1 = 1) } : DeedD), (rNum xs (rNum xs (rNum xs ra.2 127).2 31).2 1).2, e) = ({ ({ d with acct := ra.1, mem := (rNum xs ra.2 127).1, mot := (rNum xs (rNum xs ra.2 127).2 31).1, yes := decide ((rNum xs (rNum xs (rNum xs ra.2 127).2 31).2 1).1 = 1) } : DeedD) with amt := (rNum xs ((rNum xs (rNum xs (rNum xs ra.2 127).2 31).2 1).2) 4611686018427387904).1 }, (rNum xs ((rNum xs (rNum xs (rNum xs ra.2 127).2 31).2 1).2) 4611686018427387904).2, must (decide (0 < (rNum xs ((rNum xs (rNum xs (rNum xs ra.2 127).2 31).2 1).2) 4611686018427387904).1)) 80 e (rNum xs ((rNum xs (rNum xs (rNum xs ra.2 127).2 31).2 1).2) 4611686018427387904).2.2) := by
    unfold rdAmt
    rw [if_pos ⟨c1, c2, cp⟩]
   rw [hq] at hk
   simp -dsimp -implicitDefEqProofs (disch := first|with_reducible assumption|omega) [go_sem]
   refine call_p1 ?_
   refine rnum_any (s := (rNum xs (rNum xs (rNum xs ra.2 127).2 31).2 1).2) hx pd.1 ?_
   simp only [wO, rO, List.cons_append, List.nil_append]
   simp -dsimp -implicitDefEqProofs (disch := first|with_reducible assumption|omega) [go_sem]
   refine call_p1 ?_
   refine must_any (s := (rNum xs ((rNum xs (rNum xs (rNum xs ra.2 127).2 31).2 1).2) 4611686018427387904).2) _ ?_
   simp -dsimp -implicitDefEqProofs (disch := first|with_reducible assumption|omega) [go_sem]
   exact fin_here (hk h _ (PH.le_refl h) (by simp only [hb]; exact nil_ints _ .u8))
 simp -dsimp -implicitDefEqProofs (disch := first|with_reducible assumption|omega) [go_sem]
 have hbody : rdBody xs ({ d with acct := ra.1 } : DeedD) ra.2 e = (({ d with acct := ra.1 } : DeedD), ra.2, e) := by simp [rdBody, kd1, kd34, kd6, kd7]
 rw [hbody] at hk
 refine going_any (s := ra.2) ?_
 by_cases c : e = 0 ∧ (ra.2).2 = 0
 rotate_left
 ·have cb : (decide (e = 0) && decide ((ra.2).2 = 0)) = false := by rw [← Bool.decide_and]; exact decide_eq_false c
  rw [cb]
  have hq : rdAmt xs (({ d with acct := ra.1 } : DeedD), ra.2, e) = (({ d with acct := ra.1 } : DeedD), ra.2, e) := by
   unfold rdAmt
   rw [if_neg (fun hh => c ⟨hh.1, hh.2.1⟩)]
  rw [hq] at hk
  simp -dsimp -implicitDefEqProofs (disch := first|with_reducible assumption|omega) [go_sem]
  exact fin_here (hk h _ (PH.le_refl h) (by simp only [hb]; exact nil_ints _ .u8))
 obtain ⟨c1, c2⟩ := c
 have cb : (decide (e = 0) && decide ((ra.2).2 = 0)) = true := by rw [← Bool.decide_and]; exact decide_eq_true ⟨c1, c2⟩
 rw [cb]
 simp -dsimp -implicitDefEqProofs (disch := first|with_reducible assumption|omega) [go_sem]
 refine paid0_any ({ d with acct := ra.1 } : DeedD) ?_
 cases cp : paidD ({ d with acct := ra.1 } : DeedD) with
 | false =>
  have hq : rdAmt xs (({ d with acct := ra.1 } : DeedD), ra.2, e) = (({ d with acct := ra.1 } : DeedD), ra.2, e) := by
   unfold rdAmt
   rw [if_neg (fun hh => by have := hh.2.2; simp only at this; rw [cp] at this; cases this)]
  rw [hq] at hk
  simp -dsimp -implicitDefEqProofs (disch := first|with_reducible assumption|omega) [go_sem]
  exact fin_here (hk h _ (PH.le_refl h) (by simp only [hb]; exact nil_ints _ .u8))
 | true =>
  have hq : rdAmt xs (({ d with acct := ra.1 } : DeedD), ra.2, e) = ({ ({ d with acct := ra.1 } : DeedD) with amt := (rNum xs (ra.2) 4611686018427387904).1 }, (rNum xs (ra.2) 4611686018427387904).2, must (decide (0 < (rNum xs (ra.2) 4611686018427387904).1)) 80 e (rNum xs (ra.2) 4611686018427387904).2.2) := by
   unfold rdAmt
   rw [if_pos ⟨c1, c2, cp⟩]
  rw [hq] at hk
  simp -dsimp -implicitDefEqProofs (disch := first|with_reducible assumption|omega) [go_sem]
  refine call_p1 ?_
  refine rnum_any (s := ra.2) hx pa.1 ?_
  simp only [wO, rO, List.cons_append, List.nil_append]
  simp -dsimp -implicitDefEqProofs (disch := first|with_reducible assumption|omega) [go_sem]
  refine call_p1 ?_
  refine must_any (s := (rNum xs (ra.2) 4611686018427387904).2) _ ?_
  simp -dsimp -implicitDefEqProofs (disch := first|with_reducible assumption|omega) [go_sem]
  exact fin_here (hk h _ (PH.le_refl h) (by simp only [hb]; exact nil_ints _ .u8))
theorem dread_any {br : Nat} {v : Value} {xs : List Int} {s : Nat × Int} (hx : Ints h .u8 v xs) (hs : s.1 ≤ xs.length)
  (hk : ∀ h' bv, PH.le h h' → Ints h' .u8 bv (rdDeed xs s).1.bits → K (.tuple #[deedV (rdDeed xs s).1 bv, .int .i64 (rdDeed xs s).2.1]) (rO br v (rdDeed xs s).2.2 L) h') :
  Spec Tryz.prog 157 [.pointer (some ⟨br, 0, none⟩)] (rO br v s L) h K := by
 have hz := byte_of hx
 have pk := rNum_pos xs s 255 hz hs (by decide)
 obtain ⟨k, hkk⟩ : ∃ k, k = rNum xs s 255 := ⟨_, rfl⟩
 rw [← hkk] at pk
 have hall : rdAll xs s = if must (wi k.1 1 7) 80 0 k.2.2 = 0 ∧ k.2.2 = 0 then rdFields xs { zeroD with kind := k.1 } k.2 (must (wi k.1 1 7) 80 0 k.2.2) else ({ zeroD with kind := k.1 }, k.2, must (wi k.1 1 7) 80 0 k.2.2) := by rw [hkk]; rfl
 have hdd : rdDeed xs s = if (rdAll xs s).2.1.2 ≠ 0 then (zeroD, (rdAll xs s).2.1.2, (rdAll xs s).2.1) else if (rdAll xs s).2.2 ≠ 0 then (zeroD, (rdAll xs s).2.2, (rdAll xs s).2.1) else ((rdAll xs s).1, 0, (rdAll xs s).2.1) := rfl
 refine x_enterA Tryz.func157 rfl (rs := [_, _]) rfl rfl mixed (by kernel_rfl) rfl rfl fun ap nd => ?_
 obtain ⟨ap1, _⟩ := ap
 simp only [wO, rO, List.cons_append, List.nil_append]
 simp -dsimp -implicitDefEqProofs (disch := first|with_reducible assumption|omega) [go_sem]
 refine xnew fun b2 n_b2 h_b2 => ?_
 try simp only [Apart] at n_b2
 simp -dsimp -implicitDefEqProofs (disch := first|with_reducible assumption|omega) [go_sem]
 refine xnew fun bx n_bx h_bx => ?_
 try simp only [Apart] at n_bx
 simp -dsimp -implicitDefEqProofs (disch := first|with_reducible assumption|omega) [go_sem]
 refine call_p2 ?_
 refine rint_any (s := s) hx hs (by decide) (by decide) ?_
 rw [← hkk]
 simp only [wO, rO, List.cons_append, List.nil_append]
 simp -dsimp -implicitDefEqProofs (disch := first|with_reducible assumption|omega) [go_sem]
 refine xnew fun bd n_bd h_bd => ?_
 try simp only [Apart] at n_bd
 simp -dsimp -implicitDefEqProofs (disch := first|with_reducible assumption|omega) [go_sem]
 refine dwithin_any _ _ _ ?_
 simp -dsimp -implicitDefEqProofs (disch := first|with_reducible assumption|omega) [go_sem]
 refine call_p2 ?_
 refine call_s1 ?_
 refine must_any (s := k.2) (wi k.1 1 7) ?_
 simp -dsimp -implicitDefEqProofs (disch := first|with_reducible assumption|omega) [go_sem]
 refine going_any (s := k.2) ?_
 by_cases c : must (wi k.1 1 7) 80 0 k.2.2 = 0 ∧ k.2.2 = 0
 ·have cb : (decide (must (wi k.1 1 7) 80 0 k.2.2 = 0) && decide (k.2.2 = 0)) = true := by rw [← Bool.decide_and]; exact decide_eq_true c
  rw [cb]
  rw [if_pos c] at hall
  obtain ⟨q, hq⟩ : ∃ q, q = rdFields xs { zeroD with kind := k.1 } k.2 (must (wi k.1 1 7) 80 0 k.2.2) := ⟨_, rfl⟩
  rw [← hq] at hall
  rw [hall] at hdd
  simp -dsimp -implicitDefEqProofs (disch := first|with_reducible assumption|omega) [go_sem]
  refine Spec.apn (xfields_any (d := { zeroD with kind := k.1 }) (s := k.2) rfl hx pk.1 fun h2 bv le2 hb2 ap nd' => ?_)
  rw [← hq] at hb2 ap nd' ⊢
  obtain ⟨qx, qr, qd, q2, _⟩ := ap
  simp only [Nd, Apart] at nd'
  have hb2' := hb2
  have ob2 := hb2.open
  obtain ⟨y1, y2, rfl, _⟩ := ob2
  simp only [xO]
  simp -dsimp -implicitDefEqProofs (disch := first|with_reducible assumption|omega) [go_sem]
  refine call_p1 ?_
  refine rerr_any (s := q.2.1) ?_
  by_cases e1 : q.2.1.2 = 0
  rotate_left
  ·rw [if_pos e1] at hdd
   rw [hdd] at hk
   simp only [wO, rO, List.cons_append, List.nil_append]
   simp -dsimp -implicitDefEqProofs (disch := first|with_reducible assumption|omega) [go_sem]
   refine rerr_any (s := q.2.1) ?_
   simp only [wO, rO, List.cons_append, List.nil_append]
   simp -dsimp -implicitDefEqProofs (disch := first|with_reducible assumption|omega) [go_sem]
   exact fin_perm (List.Perm.refl _) (fin_perm (L' := _ :: _ :: _ :: rO br v q.2.1 L) (by exact List.perm_middle (l₁ := [_, _, _]).symm) (fin_tail (fin_tail (fin_tail (fin_here (hk h2 _ le2 (nil_ints _ .u8)))))))
  rw [if_neg (by simpa using e1)] at hdd
  by_cases e2 : q.2.2 = 0
  rotate_left
  ·rw [if_pos e2] at hdd
   rw [hdd] at hk
   simp only [wO, rO, List.cons_append, List.nil_append]
   simp -dsimp -implicitDefEqProofs (disch := first|with_reducible assumption|omega) [go_sem]
   refine xanyl (.tk 0 (.tk 1 (.tk 2 (.tk 3 (.or true 4 (.or false 5 (.tk 6 (.fin)) (.nil)) (.or false 5 (.or true 4 (.tk 6 (.fin)) (.nil)) (.nil))))))) (by kernel_rfl) (by kernel_rfl) [⟨bx, 298, [.pointer (some ⟨br, 0, none⟩), .int .i64 q.2.2], 2⟩] (Drop.mem (by simp)) ?_
   repeat' first
    | with_reducible refine xpl_or ?_ ?_
    | with_reducible refine xkp (Drop.mem (by simp)) ?_
    | simp -dsimp -implicitDefEqProofs (disch := first|with_reducible assumption|omega) [go_sem]
   all_goals exact fin_perm (L' := _ :: _ :: _ :: rO br v q.2.1 L) (by exact List.perm_middle (l₁ := [_, _, _]).symm) (fin_tail (fin_tail (fin_tail (fin_here (hk h2 _ le2 (nil_ints _ .u8))))))
  rw [if_neg (by simpa using e2)] at hdd
  rw [hdd] at hk
  simp only [wO, rO, List.cons_append, List.nil_append]
  simp -dsimp -implicitDefEqProofs (disch := first|with_reducible assumption|omega) [go_sem]
  exact fin_perm (L' := _ :: _ :: _ :: rO br v q.2.1 L) (by exact List.perm_middle (l₁ := [_, _, _]).symm) (fin_tail (fin_tail (fin_tail (fin_here (hk h2 _ le2 hb2')))))
 ·have cb : (decide (must (wi k.1 1 7) 80 0 k.2.2 = 0) && decide (k.2.2 = 0)) = false := by rw [← Bool.decide_and]; exact decide_eq_false c
  rw [cb]
  rw [if_neg c] at hall
  rw [hall] at hdd
  simp -dsimp -implicitDefEqProofs (disch := first|with_reducible assumption|omega) [go_sem]
  refine call_p1 ?_
  refine rerr_any (s := k.2) ?_
  by_cases e1 : k.2.2 = 0
  rotate_left
  ·rw [if_pos (by simpa using e1)] at hdd
   rw [hdd] at hk
   simp only [wO, rO, List.cons_append, List.nil_append]
   simp -dsimp -implicitDefEqProofs (disch := first|with_reducible assumption|omega) [go_sem]
   refine rerr_any (s := k.2) ?_
   simp only [wO, rO, List.cons_append, List.nil_append]
   simp -dsimp -implicitDefEqProofs (disch := first|with_reducible assumption|omega) [go_sem]
   exact fin_perm (L' := _ :: _ :: _ :: rO br v k.2 L) (by exact List.perm_middle (l₁ := [_, _, _]).symm) (fin_tail (fin_tail (fin_tail (fin_here (hk h _ (PH.le_refl h) (nil_ints _ .u8))))))
  have e2 : ¬ must (wi k.1 1 7) 80 0 k.2.2 = 0 := fun hh => c ⟨hh, e1⟩
  rw [if_neg (by simpa using e1), if_pos (by simpa using e2)] at hdd
  rw [hdd] at hk
  simp only [wO, rO, List.cons_append, List.nil_append]
  simp -dsimp -implicitDefEqProofs (disch := first|with_reducible assumption|omega) [go_sem]
  refine xanyl (.tk 0 (.tk 1 (.tk 2 (.tk 3 (.or true 4 (.or false 5 (.tk 6 (.fin)) (.nil)) (.or false 5 (.or true 4 (.tk 6 (.fin)) (.nil)) (.nil))))))) (by kernel_rfl) (by kernel_rfl) [⟨bx, 298, [.pointer (some ⟨br, 0, none⟩), .int .i64 (must (wi k.1 1 7) 80 0 k.2.2)], 2⟩] (Drop.mem (by simp)) ?_
  repeat' first
   | with_reducible refine xpl_or ?_ ?_
   | with_reducible refine xkp (Drop.mem (by simp)) ?_
   | simp -dsimp -implicitDefEqProofs (disch := first|with_reducible assumption|omega) [go_sem]
  all_goals exact fin_perm (L' := _ :: _ :: _ :: rO br v k.2 L) (by exact List.perm_middle (l₁ := [_, _, _]).symm) (fin_tail (fin_tail (fin_tail (fin_here (hk h _ (PH.le_refl h) (nil_ints _ .u8))))))
theorem plain8_any {d : DeedD} (bv : Value) (hb : Ints h .u8 bv d.bits) (hk : K (deedV d bv) L h) : Spec Tryz.prog 19 [deedV d bv] L h K := by
 have ob := hb.open
 obtain ⟨x1, y1, rfl, _⟩ := ob
 refine x_enter Tryz.func19 rfl (rs := [_]) rfl rfl mixed (by kernel_rfl) rfl rfl ?_
 simp -dsimp -implicitDefEqProofs (disch := first|with_reducible assumption|omega) [go_sem]
 refine xnew fun b1 n_b1 h_b1 => ?_
 try simp only [Apart] at n_b1
 simp -dsimp -implicitDefEqProofs (disch := first|with_reducible assumption|omega) [go_sem]
 refine xnew fun b2 n_b2 h_b2 => ?_
 try simp only [Apart] at n_b2
 simp -dsimp -implicitDefEqProofs (disch := first|with_reducible assumption|omega) [go_sem]
 exact fin_tail (fin_tail (fin_here hk))
theorem zeroP_ok : ParOk zeroP := ⟨fun z hz => by simp [wides, zeroP] at hz; omega, fun z hz => by simp [narrows, zeroP] at hz; omega⟩
end Go.X

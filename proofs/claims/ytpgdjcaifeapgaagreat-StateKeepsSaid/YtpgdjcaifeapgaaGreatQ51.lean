/- Lemmas and contracts for a statement about the given program. Conditions: as each says. -/
import Derived.Test.YtpgdjcaifeapgaaGreatQ50
set_option linter.unusedVariables false
set_option linter.unusedSimpArgs false
set_option maxHeartbeats 12800000
set_option maxRecDepth 20000
namespace Go.X
open Go.RowKit Go.Proofs Go.Bl
def DuP (l : List DueD) : Prop := LineD l ∧ ∀ x ∈ l, (0 ≤ x.at' ∧ x.at' ≤ 2147483647) ∧ 1 ≤ x.amt
theorem dup_owe {l : List DueD} (h : DuP l) {d : DueD} (ht : 0 ≤ d.at' ∧ d.at' ≤ 2147483647) (h0 : 0 ≤ d.amt) : DuP (oweL l d) := by
 refine ⟨line_owe h.1 d, fun x hx => ?_⟩
 by_cases c : d.amt = 0
 ·rw [oweL, if_pos c] at hx; exact h.2 x hx
 ·rcases mem_oweL hx with hx | rfl | ⟨h1, rfl⟩
  ·exact h.2 x hx
  ·exact ⟨ht, by omega⟩
  ·have h2 := h.2 _ (grD_mem h1)
   refine ⟨h2.1, ?_⟩
   show 1 ≤ (gr zeroDue l (fstK l d)).amt + d.amt
   omega
theorem dup_flt {l : List DueD} (h : DuP l) (q : DueD → Bool) : DuP (l.filter q) :=
 ⟨h.1.sublist (List.filter_sublist.map keyO), fun x hx => h.2 x (List.mem_filter.1 hx).1⟩
theorem bal0 {m : MemD} (mo : MemOk m) : 0 ≤ m.bal := (mo.u m.bal (by simp)).1
theorem dup_ej {q : ParD} {cs : List MemD} (hm : ∀ m ∈ cs, MemOk m) {t : Int} (ht : 0 ≤ t ∧ t ≤ 2147483647) {ds : List DueD} (h : DuP ds) : ∀ k, k ≤ cs.length → DuP (duN q cs t ds k)
 | 0, _ => h
 | k + 1, hk => by
  have ih := dup_ej (q := q) hm ht h k (by omega)
  rw [duN]
  split
  ·exact dup_owe ih ht (bal0 (hm _ (gr_mem (z := zeroM) (k := k) (by omega))))
  ·exact ih
theorem dup_lv {s : StD} {D : Nat} (ti : TkI s D) {t : Int} (ht : 0 ≤ t ∧ t ≤ 2147483647) (h : DuP s.dues) : ∀ k, k ≤ (lvW s).length → DuP (lvK t (lvW s) (s.members, s.dues) k).2
 | 0, _ => h
 | k + 1, hk => by
  have ih := dup_lv ti ht h k (by omega)
  have lv := (lv_ok ti ht (k := k) (by omega)).1
  show DuP (oweL (lvK t (lvW s) (s.members, s.dues) k).2 (dueOf t (gr zeroM (lvK t (lvW s) (s.members, s.dues) k).1 (at0 (lvW s) k).toNat)))
  refine dup_owe ih ht ?_
  have hw := (lv_w ti).2.2 (at0 (lvW s) k) (by rw [← at0_lt (by omega)]; exact List.getElem_mem _)
  have l1 := lv.l1
  exact bal0 (lv.m _ (gr_mem (z := zeroM) (k := (at0 (lvW s) k).toNat) (by simp only at l1; omega)))
theorem dup_st {s : StD} {D : Nat} (ti : TkI s D) (r : RepD) {t : Int} (ht : 0 ≤ t ∧ t ≤ 2147483647) (h : DuP s.dues) : ∀ k, k ≤ (enW s).length → DuP (stK s.par t (enW s) ⟨(enX s).ms, s.dues, s.exit, r.out, r.started⟩ k).ds
 | 0, _ => h
 | k + 1, hk => by
  have ih := dup_st ti r ht h k (by omega)
  have st := st_ok ti r ht (k := k) (by omega)
  have hd0 : (enW s).drop k = at0 (enW s) k :: (enW s).drop (k + 1) := by rw [List.drop_eq_getElem_cons (by omega), at0_lt (by omega)]
  have hin := row_in st.e (z := at0 (enW s) k) (by rw [hd0]; simp)
  rw [stK, stStep]
  split
  ·exact ih
  ·refine dup_owe ih ht ?_
   exact bal0 (st.m _ (gr_mem (z := zeroM) (k := (at0 (enW s) k).toNat) (by omega)))
structure Fz (s S : StD) : Prop where
 k : S.marks = s.marks
 r : S.ring = s.ring
 pn : S.purses.length = s.purses.length
 ml : s.members.length ≤ S.members.length
 o : S.pool = s.pool ∨ S.pool = []
 du : DuP s.dues → DuP S.dues
theorem Fz.next {s S S' : StD} (h : Fz s S) (h2 : Fz S S') : Fz s S' :=
 ⟨h2.k.trans h.k, h2.r.trans h.r, h2.pn.trans h.pn, Nat.le_trans h.ml h2.ml, by
  rcases h2.o with e | e
  ·rw [e]; exact h.o
  ·exact .inr e, fun x => h2.du (h.du x)⟩
theorem fz_wg (s : StD) : Fz s (wgS s) := ⟨rfl, rfl, rfl, Nat.le_of_eq (fr_wg s).l.symm, .inl rfl, id⟩
theorem fz_mt {s : StD} {D : Nat} (ti : TkI s D) {r : RepD} (ha : 0 ≤ r.act ∧ r.act ≤ 18446744073709551615) : Fz s (mtS s r) :=
 ⟨rfl, rfl, (mt_k ti ha (Nat.le_refl _)).l2, Nat.le_of_eq (fr_mt s r).l.symm, .inl rfl, id⟩
theorem fz_fn (s : StD) (r : RepD) : Fz s (fnS s r) := ⟨rfl, rfl, rfl, Nat.le_of_eq (fr_fn s r).l.symm, .inl rfl, id⟩
theorem fz_ej {s : StD} {D : Nat} (ti : TkI s D) {t : Int} (ht : 0 ≤ t ∧ t ≤ 2147483647) : Fz s (ejS s t s.members.length) :=
 ⟨rfl, rfl, rfl, Nat.le_of_eq (fr_ej s t).l.symm, .inl rfl, fun h => dup_ej ti.be.m ht h _ (Nat.le_refl _)⟩
theorem fz_lv {s : StD} {D : Nat} (ti : TkI s D) {t : Int} (ht : 0 ≤ t ∧ t ≤ 2147483647) : Fz s (lvS s t) :=
 ⟨rfl, rfl, (dpK_ok ti.be.p (lv_d ti ht) _ (Nat.le_refl _)).1, Nat.le_of_eq (fr_lv s t).l.symm, .inl rfl, fun h => dup_flt (dup_lv ti ht h _ (Nat.le_refl _)) _⟩
theorem fz_en {s : StD} {D : Nat} (ti : TkI s D) (r : RepD) {t : Int} (ht : 0 ≤ t ∧ t ≤ 2147483647) : Fz s (enS s r t) := by
 have hx := en_x ti
 have st := st_ok ti r ht (Nat.le_refl (enW s).length)
 unfold enS
 split
 ·refine ⟨rfl, rfl, hx.1.l2, ?_, .inr rfl, fun h => dup_st ti r ht h _ (Nat.le_refl _)⟩
  show s.members.length ≤ (enY s r t).ms.length
  have h1 : (enY s r t).ms.length = (enX s).ms.length := st.l1
  omega
 ·exact ⟨rfl, rfl, rfl, Nat.le_refl _, .inl rfl, id⟩
theorem fz_mo {s : StD} {D : Nat} (ti : TkI s D) (r : RepD) : Fz s (moS s r) :=
 ⟨rfl, rfl, (mo_k ti r (Nat.le_refl _)).l2, Nat.le_refl _, .inl rfl, id⟩
theorem fz_aj (s : StD) : Fz s (ajS s) :=
 ⟨rfl, rfl, (clN_len s.par (s.members, s.purses) s.members.length).2, Nat.le_of_eq (clN_len s.par (s.members, s.purses) s.members.length).1.symm, .inl rfl, id⟩
theorem tick10 {s : StD} {D : Nat} (ti : TkI s D) (ms : ∀ m ∈ s.members, MI s.par m) : TkI (tk10 s).1 (D + 384) ∧ Fz s (tk10 s).1 ∧ ∀ m ∈ (tk10 s).1.members, MI (tk10 s).1.par m ∧ MF (tk10 s).1.par m := by
 obtain ⟨ti7, f7, ti8, m8, p8, e8, l8⟩ := tick8 ti ms
 have hpc := parR_streak ti.r
 have hep := ti.ep
 have hml := ti.ml
 have hA := act_le ti.ml ms
 have ht : 0 ≤ atP s ∧ atP s ≤ 2147483647 := by unfold atP; omega
 have hact : 0 ≤ actS s ∧ actS s ≤ 18446744073709551615 := by
  have := pre_le (ks := s.marks) ti.be.m
  have e : actS s = actL s.members := rfl
  omega
 have ti2 : TkI (tk2 s).1 D := wg_ti ti
 have z2 : Fz s (tk2 s).1 := fz_wg s
 have ra2 : 0 ≤ (tk2 s).2.act ∧ (tk2 s).2.act ≤ 18446744073709551615 := hact
 obtain ⟨S2, hS2⟩ : ∃ x, x = (tk2 s).1 := ⟨_, rfl⟩
 obtain ⟨R2, hR2⟩ : ∃ x, x = (tk2 s).2 := ⟨_, rfl⟩
 have rb2 : R2.burned = 0 := by rw [hR2]; rfl
 have e3 : tk3 s = (mtS S2 R2, mtR S2 R2) := by rw [hS2, hR2]; rfl
 rw [← hS2] at ti2 z2
 rw [← hR2] at ra2
 have ti3 := mt_ti ti2 ra2
 have z3 := z2.next (fz_mt ti2 ra2)
 have rb3 : (mtR S2 R2).burned = 0 := rb2
 obtain ⟨S3, hS3⟩ : ∃ x, x = mtS S2 R2 := ⟨_, rfl⟩
 obtain ⟨R3, hR3⟩ : ∃ x, x = mtR S2 R2 := ⟨_, rfl⟩
 rw [← hS3] at ti3 z3 e3
 rw [← hR3] at rb3 e3
 have e4 : tk4 s = (fnS S3 R3, fnR S3 R3 S3.members.length) := by unfold tk4; rw [e3]
 have ti4 := fn_ti ti3 rb3
 have z4 := z3.next (fz_fn S3 R3)
 obtain ⟨S4, hS4⟩ : ∃ x, x = fnS S3 R3 := ⟨_, rfl⟩
 rw [← hS4] at ti4 z4 e4
 have e5 : (tk5 s).1 = ejS S4 (atP s) S4.members.length := by unfold tk5; rw [e4]; rfl
 have ti5 := ejk_ti ti4 ht (Nat.le_refl S4.members.length)
 have z5 := z4.next (fz_ej ti4 ht)
 rw [← e5] at ti5 z5
 have z7 : Fz s (tk7 s).1 := z5.next (fz_lv ti5 ht)
 have z8 : Fz s (tk8 s).1 := z7.next (fz_en ti7 (tk7 s).2 ht)
 have ti9 : TkI (tk9 s).1 (D + 256) := mok_ti ti8 (tk8 s).2 (Nat.le_refl _)
 have z9 : Fz s (tk9 s).1 := z8.next (fz_mo ti8 (tk8 s).2)
 have m9 : ∀ m ∈ (tk9 s).1.members, MI s.par m ∧ MF s.par m := m8
 obtain ⟨S9, hS9⟩ : ∃ x, x = (tk9 s).1 := ⟨_, rfl⟩
 rw [← hS9] at ti9 z9 m9
 by_cases c : (tk9 s).1.par = s.par
 ·have e10 : (tk10 s).1 = S9 := by rw [tk10, if_pos c, hS9]
  rw [← hS9] at c
  rw [e10]
  refine ⟨ti9.mono (by omega), z9, ?_⟩
  rw [c]; exact m9
 ·have e10 : (tk10 s).1 = ejS (ajS S9) (atP s) (ajS S9).members.length := by rw [tk10, if_neg c, hS9]; rfl
  have tj : TkI (ajS S9) (D + 256) := ajk_ti ti9 (Nat.le_refl _)
  rw [e10]
  refine ⟨(ejk_ti tj ht (Nat.le_refl _)).mono (by have := tj.ml; omega), z9.next ((fz_aj S9).next (fz_ej tj ht)), ?_⟩
  exact ej_ms tj.r _ (aj_ms (p := s.par) ti9.r fun m hm => (m9 m hm).1)
theorem setF_status (q : ParD) (m : MemD) : (setF q m).status = m.status ∧ (setF q m).owner = m.owner := by
 unfold setF
 split <;> exact ⟨rfl, rfl⟩
theorem chk0 : chkB (List.replicate 16 0) 128 = true := by decide
theorem get0 : ∀ i : Nat, i < 128 → getB (List.replicate 16 0) i = false := by decide +kernel
theorem en_ep' (s : StD) (r : RepD) (t : Int) : (enS s r t).ep = s.ep := by
 unfold enS
 split <;> rfl
theorem ej_ep' (s : StD) (r : RepD) (t : Int) : (ejP2 t (ajS s, r)).1.ep = s.ep := rfl
theorem mo_ep' (s : StD) (r : RepD) : (moS s r).ep = s.ep := rfl
theorem se_ep' (s : StD) : (seS s).ep = s.ep + 1 := rfl
theorem ep7' (s : StD) : (tk7 s).1.ep = s.ep := rfl
theorem tick_ep' (s : StD) : (tickS s).ep = s.ep + 1 := by
 have e8 : (tk8 s).1.ep = s.ep := (en_ep' (tk7 s).1 (tk7 s).2 (atP s)).trans (ep7' s)
 have e9 : (tk9 s).1.ep = (tk8 s).1.ep := mo_ep' (tk8 s).1 (tk8 s).2
 have e10 : (tk10 s).1.ep = (tk9 s).1.ep := by
  by_cases c : (tk9 s).1.par = s.par
  ·rw [tk10, if_pos c]
  ·rw [tk10, if_neg c]; exact ej_ep' _ _ _
 have eS : (tickS s).ep = (tk10 s).1.ep + 1 := se_ep' (tk10 s).1
 rw [eS, e10, e9, e8]
theorem tick_fits {h : PH} {v : SV} {s : StD} (hs : IsSt h v s) (hf : fitsS s = true) (he : s.ep < 1073741824) : fitsS (tickS s) = true := by
 have ti := ti_of hs hf he (Nat.le_refl s.dues.length)
 obtain ⟨t10, z10, m10⟩ := tick10 ti fun m hm => (ms_of hs hf m hm).1
 obtain ⟨f1, f2, f3, f4, f5, f6, f7, f8, f9⟩ := fitsT_iff.1 hf
 have hc := tick_calm s
 have hcb := stepP_b (calm := s.calm) (pr := preS s) (ac := actS s)
 have hpe := tick_ep' s
 have eS : tickS s = seS (tk10 s).1 := rfl
 obtain ⟨S, hS⟩ : ∃ x, x = (tk10 s).1 := ⟨_, rfl⟩
 rw [← hS] at t10 z10 m10 eS
 have hl : (seS S).members.length = S.members.length := upN_len _ _ _
 have hsum := t10.sum
 obtain ⟨b1, b2, b3, b4, b5, b6⟩ := t10.parts
 have hep := t10.ep
 have hac : ∀ i, acctB (seS S) i = true ↔ 0 ≤ i ∧ i < (s.purses.length : Int) := fun i => by
  rw [acctT_iff, ← z10.pn]; exact Iff.rfl
 simp only [poolsB, Bool.and_eq_true, List.all_eq_true, decide_eq_true_eq, duesB, dueB, List.mem_range, Bool.not_eq_true'] at f6
 have hdu0 : DuP s.dues := ⟨line_iff.2 fun k hk => ⟨(f6.2 k hk).1.2, (f6.2 k hk).2⟩, fun x hx => by
  obtain ⟨k, hk, rfl⟩ := List.mem_iff_getElem.1 hx
  have := (f6.2 k hk).1.1
  rw [gr_lt hk] at this
  simp only [due1B, Bool.and_eq_true, wi_iff, decide_eq_true_eq] at this
  exact ⟨this.1.1.2, this.1.2⟩⟩
 have hdu := z10.du hdu0
 rw [fitsT_iff, hc, hpe, eS]
 refine ⟨t10.r, ?_, ?_, ?_, ?_, ?_, ?_, ?_, ?_⟩
 ·rw [wi_iff]; have := ti.ep; omega
 ·rw [wi_iff]; exact hcb
 ·simp only [pursesB, Bool.and_eq_true, List.all_eq_true, decide_eq_true_eq, wi_iff] at f4 ⊢
  refine ⟨?_, fun z hz => ?_⟩
  ·show 1 ≤ (S.purses.length : Int) ∧ (S.purses.length : Int) ≤ 64
   rw [z10.pn]; exact f4.1
  ·obtain ⟨k, hk, rfl⟩ := List.mem_iff_getElem.1 (show z ∈ S.purses from hz)
   have := at0_le_tot t10.be.p k
   rw [at0_lt hk]
   omega
 ·simp only [membersB, Bool.and_eq_true, List.all_eq_true, decide_eq_true_eq]
  refine ⟨⟨⟨by rw [hl]; exact t10.ml, fun m hm => ?_⟩, ?_⟩, ?_⟩
  ·have e : (seS S).members = S.members.map (setF S.par) := upN_all _ _
   rw [e] at hm
   obtain ⟨x, hx, rfl⟩ := List.mem_map.1 hm
   have h1 := m10 x hx
   have h2 := t10.be.o x hx
   refine ⟨mi_fits t10.r h1.1 h1.2, ?_⟩
   rw [(setF_status _ _).2, hac, ← z10.pn]
   exact h2
  ·rw [row_iffB]
   exact row_eq t10.en hl fun j hj => by
    show (gr zeroM (upN (setF S.par) S.members S.members.length) j).status = 1 ↔ _
    rw [upN_gr _ _ _ (Nat.le_refl _), if_pos hj, (setF_status _ _).1]
  ·rw [row_iffB]
   exact row_eq t10.ex hl fun j hj => by
    show (gr zeroM (upN (setF S.par) S.members S.members.length) j).status = 3 ↔ _
    rw [upN_gr _ _ _ (Nat.le_refl _), if_pos hj, (setF_status _ _).1]
 ·simp only [poolsB, Bool.and_eq_true, List.all_eq_true, decide_eq_true_eq, duesB, dueB, List.mem_range, Bool.not_eq_true']
  refine ⟨⟨t10.on, fun d hd => ?_⟩, fun k hk => ?_⟩
  ·have hd' : d ∈ s.pool := by
    have hd2 : d ∈ S.pool := hd
    rcases z10.o with e | e
    ·rw [← e]; exact hd2
    ·rw [e] at hd2; cases hd2
   have h1 := f6.1.2 d hd'
   have hmm := z10.ml
   simp only [dep1B, Bool.and_eq_true, Bool.or_eq_true, wi_iff] at h1 ⊢
   refine ⟨⟨h1.1.1, (hac _).2 (acctT_iff.1 h1.1.2)⟩, h1.2.imp id fun c => ?_⟩
   rw [hl]; omega
  ·have hk' : k < S.dues.length := hk
   have h1 := (line_iff.1 hdu.1) k hk'
   refine ⟨⟨?_, h1.1⟩, h1.2⟩
   have h2 := hdu.2 _ (grD_mem hk')
   have h3 := t10.dd _ (grD_mem hk')
   have h4 := amt_le (fun x hx => (t10.dd x hx).1) hk'
   show due1B (seS S) (gr zeroDue S.dues k) = true
   simp only [due1B, Bool.and_eq_true, decide_eq_true_eq, wi_iff]
   refine ⟨⟨⟨(hac _).2 (by rw [← z10.pn]; exact h3.2), h2.1⟩, h2.2⟩, by omega⟩
 ·simp only [motionsB, Bool.and_eq_true, List.all_eq_true, decide_eq_true_eq]
  refine ⟨t10.mn, fun m hm => ?_⟩
  have h1 := t10.mm m hm
  exact ⟨⟨h1.f, (hac _).2 (by rw [← z10.pn]; exact h1.a)⟩, (hac _).2 (by rw [← z10.pn]; exact h1.t)⟩
 ·simp only [marksB, rollB, Bool.and_eq_true, List.all_eq_true, decide_eq_true_eq] at f8 ⊢
  refine ⟨⟨⟨?_, chk0⟩, fun b hb => ?_⟩, fun i hi => ?_⟩
  ·show (turnP S.ring S.marks).length ≤ 8
   rw [turnP, List.length_cons, List.length_take]; omega
  ·rcases List.mem_cons.1 (show b ∈ turnP S.ring S.marks from hb) with rfl | hb
   ·rw [z10.k]; exact f8.1.1.2
   ·rw [z10.r] at hb
    exact f8.1.2 b (List.mem_of_mem_take hb)
  ·rw [Bool.or_eq_true, Bool.not_eq_true']
   exact .inr (get0 i (List.mem_range.1 hi))
 ·simp only [holdsB, Bool.and_eq_true, decide_eq_true_eq]
  refine ⟨t10.top, ?_⟩
  have hm := t10.mon
  have e1 : sStk (seS S) = tot (S.members.map MemD.bal) := by
   show tot ((upN (setF S.par) S.members S.members.length).map MemD.bal) = _
   rw [set_bal _ _ rfl]
  have e2 : sPur (seS S) = tot S.purses := rfl
  have e3 : sPool (seS S) = tot (S.pool.map DepD.amt) := rfl
  have e4 : sDue (seS S) = dTot S.dues := rfl
  rw [sAll, e1, e2, e3, e4]
  show _ + S.treas + S.burn = S.gen + S.mint
  omega
end Go.X

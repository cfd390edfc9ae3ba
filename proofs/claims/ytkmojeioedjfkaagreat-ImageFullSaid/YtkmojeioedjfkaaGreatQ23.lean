/- Lemmas and contracts for a statement about the given program. Conditions: as each says. -/
import Derived.Test.YtkmojeioedjfkaaGreatQ10
import Derived.Test.YtkmojeioedjfkaaGreatQ22
set_option linter.unusedVariables false
set_option linter.unusedSimpArgs false
set_option maxHeartbeats 12800000
set_option maxRecDepth 20000
namespace Go.X
open Go.RowKit Go.Proofs Go.Bl
variable {L : Own} {h : PH} {K : PK}
theorem xMI_ptr {P : Program} {T e : Nat} (hT : P.underlying T = some (.pointer e)) (a : Value) (K : Value → Prop) (t : Tok K) : xMI P T a K t = K (.iface T a) :=
 xRun_of (fun W => by simp [Instr.makeInterface, run_underlying hT]) K
theorem ienc0_any {s : StD} (v : SV) (hs : IsSt h v s) (few : FewS s) (hw : fitsS s = true → StW s) (hb : ∀ z ∈ encS s, 0 ≤ z ∧ z ≤ 255)
  (hk : ∀ h' r, PH.le h h' → (fitsS s = true → Ints h' .u8 r (encS s)) → (fitsS s = false → r = .slice none 0 0) → K (.tuple #[r, .int .i64 (if fitsS s then 0 else 291)]) L h') :
  Spec Tryz.prog 9 [stV s v] L h K := by
 obtain ⟨pa, pc, ma, mc, ea, ec, xa, xc, oa, oc, da, dc, ta, tc, ka, kc, ra, rc, rfl⟩ := hs.slices
 refine x_enter Tryz.func9 rfl (rs := [_, _]) rfl rfl mixed (by kernel_rfl) rfl rfl ?_
 simp -dsimp -implicitDefEqProofs (disch := first|with_reducible assumption|omega) [go_sem]
 refine xnew fun b1 n_b1 h_b1 => ?_
 try simp only [Apart] at n_b1
 simp -dsimp -implicitDefEqProofs (disch := first|with_reducible assumption|omega) [go_sem]
 refine fits_any (s := s) ⟨.slice pa s.purses.length pc, .slice ma s.members.length mc, .slice ea s.entry.length ec, .slice xa s.exit.length xc, .slice oa s.pool.length oc, .slice da s.dues.length dc, .slice ta s.motions.length tc, .slice ka s.marks.length kc, .slice ra s.ring.length rc⟩ hs few ?_
 cases f1 : fitsS s with
 | false =>
  have := hk h (.slice none 0 0) (PH.le_refl _) (fun e => by rw [f1] at e; cases e) (fun _ => rfl)
  rw [f1] at this
  simp -dsimp -implicitDefEqProofs (disch := first|with_reducible assumption|omega) [go_sem]
  exact fin_tail (fin_here this)
 | true =>
  simp -dsimp -implicitDefEqProofs (disch := first|with_reducible assumption|omega) [go_sem]
  refine xnew fun b4 n_b4 h_b4 => ?_
  try simp only [Apart] at n_b4
  simp -dsimp -implicitDefEqProofs (disch := first|with_reducible assumption|omega) [go_sem, xMI_ptr (show Tryz.prog.underlying 94 = some (.pointer 100) by kernel_rfl)]
  refine Spec.apn (through_w (bw := b4) (b1 := b1) (o := none) (B := []) [stB b1 s ⟨.slice pa s.purses.length pc, .slice ma s.members.length mc, .slice ea s.entry.length ec, .slice xa s.exit.length xc, .slice oa s.pool.length oc, .slice da s.dues.length dc, .slice ta s.motions.length tc, .slice ka s.marks.length kc, .slice ra s.ring.length rc⟩] ⟨.slice pa s.purses.length pc, .slice ma s.members.length mc, .slice ea s.entry.length ec, .slice xa s.exit.length xc, .slice oa s.pool.length oc, .slice da s.dues.length dc, .slice ta s.motions.length tc, .slice ka s.marks.length kc, .slice ra s.ring.length rc⟩ List.mem_cons_self hs (hw f1) rfl (by decide) fun h2 o2 B2 le2 e2 k2 l2 ap nd => ?_)
  obtain ⟨a4, ap⟩ := ap
  simp only at a4
  rw [List.nil_append] at e2
  subst e2
  simp -dsimp -implicitDefEqProofs (disch := first|with_reducible assumption|omega) [go_sem]
  refine woutG (T := 100) (s := (encS s, 0)) (by decide) [_] hb k2 (by simp only; omega) fun h3 r le3 i3 _ => ?_
  have i4 := i3 rfl
  obtain ⟨ra', rc', rfl, _⟩ := i4.open
  simp -dsimp -implicitDefEqProofs (disch := first|with_reducible assumption|omega) [go_sem]
  have hk1 := hk h3 _ (le2.trans le3) (fun _ => i4) (fun e => by rw [f1] at e; cases e)
  rw [f1] at hk1
  exact fin_tail (fin_tail (fin_oent (fin_here hk1)))
def Byt (l : List Int) : Prop := ∀ z ∈ l, 0 ≤ z ∧ z ≤ 255
theorem Byt.app {a b : List Int} (ha : Byt a) (hb : Byt b) : Byt (a ++ b) := fun z hz => by
 rcases List.mem_append.1 hz with h | h
 ·exact ha z h
 ·exact hb z h
theorem Byt.form (n : Nat) : Byt (formN n) := formN_byte n
theorem Byt.flat {α : Type} {f : α → List Int} {l : List α} (h : ∀ x ∈ l, Byt (f x)) : Byt (l.flatMap f) := fun z hz => by
 obtain ⟨x, hx, hz⟩ := List.mem_flatMap.1 hz
 exact h x hx z hz
theorem Byt.flatN : ∀ (l : List Int), Byt (flatN l)
 | [] => fun z hz => by simp [Go.Bl.flatN] at hz
 | a :: l => by
  have := Byt.flatN l
  intro z hz
  simp only [Go.Bl.flatN, List.mem_append] at hz
  rcases hz with hz | hz
  ·exact formN_byte _ z hz
  ·exact this z hz
theorem Byt.raw {b : List Int} (h : Byt b) : Byt (rawN b) := Byt.app (Byt.form _) h
theorem byt_ints {h : PH} {v : Value} {zs : List Int} (hi : Ints h .u8 v zs) : Byt zs := fun z hz => by
 have := hi.2 z hz
 rwa [show IntKind.u8.min = 0 by decide, show IntKind.u8.max = 255 by decide] at this
theorem encS_byte {h : PH} {v : SV} {s : StD} (hs : IsSt h v s) : Byt (encS s) := by
 obtain ⟨qm, qm1, qm2, qm3⟩ := hs.t
 obtain ⟨qr, qr1, qr2⟩ := hs.r
 have hm : ∀ m ∈ s.motions, Byt m.yes ∧ Byt m.no := fun m hx => by
  rw [← qm2] at hx
  obtain ⟨q, hq, rfl⟩ := List.mem_map.1 hx
  exact ⟨byt_ints (qm3 q hq).y, byt_ints (qm3 q hq).n⟩
 have hr : ∀ b ∈ s.ring, Byt b := fun b hx => by
  rw [← qr2, xsL] at hx
  obtain ⟨q, hq, rfl⟩ := List.mem_map.1 hx
  exact byt_ints (qr1.d q hq)
 have F := Byt.form
 unfold encS
 refine Byt.app (Byt.app (Byt.app (Byt.app (Byt.app (Byt.app (Byt.app (Byt.app (Byt.app (Byt.app (Byt.app (Byt.app (Byt.app ?_ (Byt.flatN _)) (F _)) (F _)) (F _)) ?_) ?_) ?_) ?_) ?_) ?_) ?_) ?_) ?_
 ·exact Byt.flatN _
 ·exact (F _).app (Byt.flat fun x _ => F _)
 ·exact (F _).app (Byt.flat fun x _ => ((((((F _).app (F _)).app (F _)).app (F _)).app (F _)).app (F _)))
 ·exact (F _).app (Byt.flat fun x _ => F _)
 ·exact (F _).app (Byt.flat fun x _ => F _)
 ·exact (F _).app (Byt.flat fun x _ => ((((F _).app (F _)).app (F _)).app (F _)))
 ·exact (F _).app (Byt.flat fun x _ => (((F _).app (F _)).app (F _)))
 ·refine (F _).app (Byt.flat fun x hx => ?_)
  have hy := hm x hx
  refine Byt.app (Byt.app (Byt.app (Byt.app (Byt.app (Byt.app (Byt.app (Byt.app (Byt.app (F _) (F _)) ?_) (F _)) (F _)) (F _)) (F _)) (F _)) hy.1.raw) hy.2.raw
  split
  ·exact Byt.flatN _
  ·intro z hz; cases hz
 ·exact (byt_ints hs.k).raw
 ·exact (F _).app (Byt.flat fun x hx => (hr x hx).raw)
def few9 (s : StD) : Bool := decide (s.purses.length ≤ 100) && decide (s.members.length ≤ 200) && decide (s.entry.length ≤ 300) && decide (s.exit.length ≤ 300) && decide (s.pool.length ≤ 300) && decide (s.dues.length ≤ 200) && decide (s.motions.length ≤ 40) && decide (s.ring.length ≤ 20) && decide (s.marks.length ≤ 50)
def fewB (s : StD) : Bool := few9 s && s.ring.all (fun b => decide (b.length ≤ 50)) && s.motions.all (fun m => decide (m.yes.length ≤ 50) && decide (m.no.length ≤ 50))
theorem few9_len {s : StD} (hf : few9 s = true) : s.purses.length ≤ 100 ∧ s.members.length ≤ 200 ∧ s.entry.length ≤ 300 ∧ s.exit.length ≤ 300 ∧ s.pool.length ≤ 300 ∧ s.dues.length ≤ 200 ∧ s.motions.length ≤ 40 ∧ s.ring.length ≤ 20 ∧ s.marks.length ≤ 50 := by
 simp only [few9, Bool.and_eq_true, decide_eq_true_eq] at hf
 omega
theorem fewB_9 {s : StD} (hf : fewB s = true) : few9 s = true := by
 simp only [fewB, Bool.and_eq_true] at hf
 exact hf.1.1
theorem fewB_S {s : StD} (hf : fewB s = true) : FewS s := by
 have := few9_len (fewB_9 hf)
 exact ⟨by omega, by omega, by omega, by omega, by omega, by omega, by omega, by omega⟩
theorem zeros_ints {h : PH} {v : Value} {n : Nat} (sl : Sl h v n 1 (List.replicate n (.int .u8 0))) : Ints h .u8 v (List.replicate n 0) :=
 ⟨by simpa [List.map_replicate] using sl, fun z hz => by rw [List.eq_of_mem_replicate hz]; decide⟩
theorem perm_of_sub2I : ∀ {S l : List Int}, S.Nodup → (∀ x ∈ S, x ∈ l) → l.length = S.length → l.Perm S
 | [], l, _, _, hl => by
  have : l = [] := List.eq_nil_of_length_eq_zero hl
  rw [this]
 | a :: S, l, hn, hs, hl => by
  have ha := hs a (by simp)
  rw [List.nodup_cons] at hn
  have h1 := List.perm_cons_erase ha
  have h2 := List.length_erase_of_mem ha
  refine h1.trans (List.Perm.cons _ (perm_of_sub2I hn.2 (fun x hx => ?_) ?_))
  ·have hne : x ≠ a := fun e => hn.1 (e ▸ hx)
   exact (List.mem_erase_of_ne hne).2 (hs x (by simp [hx]))
  ·rw [h2, hl]; simp
def stLI (l : List MemD) (st : Int) (n : Nat) : List Nat := (List.range n).filter fun j => decide ((gr zeroM l j).status = st)
theorem cntS_lenI (l : List MemD) (st : Int) : ∀ k, cntS l st k = (stLI l st k).length
 | 0 => rfl
 | k + 1 => by
  rw [cntS, cntS_lenI l st k, stLI, stLI, List.range_succ, List.filter_append, List.length_append]
  by_cases c : (gr zeroM l k).status = st
  ·simp [c]
  ·simp [c]
theorem stL_memI {l : List MemD} {st : Int} {n j : Nat} : j ∈ stLI l st n ↔ j < n ∧ (gr zeroM l j).status = st := by
 simp [stLI]
theorem stL_nodupI (l : List MemD) (st : Int) (n : Nat) : ((stLI l st n).map fun j : Nat => (j : Int)).Nodup := by
 rw [List.Nodup, List.pairwise_map]
 have h1 : (stLI l st n).Nodup := List.Nodup.sublist List.filter_sublist List.nodup_range
 exact h1.imp fun h e => h (by omega)
theorem hasB_memI {s : StD} {l : List Int} {st : Int} (h : hasB s l st = true) {j : Nat} (hj : j < s.members.length) (e : (gr zeroM s.members j).status = st) : (j : Int) ∈ l := by
 rw [hasB, List.all_eq_true] at h
 have := h j (List.mem_range.2 hj)
 simpa [e] using this
theorem row_len {s : StD} {l : List Int} {st : Int} (h : rowB s l st = true) : l.length ≤ s.members.length := by
 rw [rowB, Bool.and_eq_true, decide_eq_true_eq] at h
 rw [h.2, cntS_lenI]
 exact Nat.le_trans (List.length_filter_le _ _) (by rw [List.length_range]; exact Nat.le_refl _)
theorem row_pos {s : StD} {l : List Int} {st : Int} (h : rowB s l st = true) : ∀ x ∈ l, 0 ≤ x ∧ x < s.members.length := by
 rw [rowB, Bool.and_eq_true, decide_eq_true_eq] at h
 have hp : l.Perm ((stLI s.members st s.members.length).map fun j : Nat => (j : Int)) := by
  refine perm_of_sub2I (stL_nodupI _ _ _) (fun x hx => ?_) ?_
  ·obtain ⟨j, hj, rfl⟩ := List.mem_map.1 hx
   rw [stL_memI] at hj
   exact hasB_memI h.1 hj.1 hj.2
  ·rw [List.length_map, h.2, cntS_lenI]
 intro x hx
 obtain ⟨j, hj, rfl⟩ := List.mem_map.1 (hp.mem_iff.1 hx)
 have := (stL_memI.1 hj).1
 omega
theorem chk_len {b : List Int} (h : chkB b 128 = true) : b.length = 16 := by
 rw [chkB, Bool.and_eq_true, decide_eq_true_eq] at h
 have h1 := h.1.2.2
 rw [show sizeB 128 = 16 by decide] at h1
 omega
theorem stw_of {h : PH} {v : SV} {s : StD} (hs : IsSt h v s) (fd : s.dues.length ≤ 3200) (hf : fitsS s = true) : StW s := by
 simp only [fitsS, Bool.and_eq_true] at hf
 obtain ⟨⟨⟨⟨⟨⟨⟨⟨f1, f2⟩, f3⟩, f4⟩, f5⟩, f6⟩, f7⟩, f8⟩, f9⟩ := hf
 rw [wi_iff] at f2 f3
 simp only [membersB, Bool.and_eq_true, List.all_eq_true] at f5
 simp only [poolsB, Bool.and_eq_true, List.all_eq_true, duesB, dueB, List.mem_range] at f6
 simp only [motionsB, Bool.and_eq_true, List.all_eq_true] at f7
 rw [pursesB, Bool.and_eq_true, wi_iff] at f4
 simp only [marksB, rollB, Bool.and_eq_true, decide_eq_true_eq, List.all_eq_true] at f8
 have ll1 := row_len f5.1.2
 have ll2 := row_len f5.2
 have f51 := f5.1.1.1
 rw [decide_eq_true_eq] at f51
 have f61 := f6.1.1
 rw [decide_eq_true_eq] at f61
 have f71 := f7.1
 rw [decide_eq_true_eq] at f71
 have f81 := chk_len f8.1.1.2
 have f82 := f8.1.1.1
 have hst : 0 ≤ s.par.streak := by
  have := f1
  simp only [parR, othersB, List.all_cons, List.all_nil, Bool.and_eq_true, id] at this
  have h1 : wi s.par.streak 0 64 = true := by simp_all
  exact (wi_iff.1 h1).1
 obtain ⟨qm, qm1, qm2, qm3⟩ := hs.t
 have mok : ∀ m ∈ s.motions, MotOk m := fun m hx => by
  rw [← qm2] at hx
  obtain ⟨q, hq, rfl⟩ := List.mem_map.1 hx
  exact (qm3 q hq).ok
 refine ⟨f1, f2.1, f3.1, fun x hx => ?_, fun x hx => (row_pos f5.1.2 x hx).1, fun x hx => (row_pos f5.2 x hx).1, fun x hx => ?_, fun x hx => ?_, fun x hx => ?_, by omega, fun x hx => by have := chk_len (f8.1.2 x hx); omega, by omega, by omega, by omega, by omega, by omega, by omega, by omega, by omega⟩
 ·have h1 := (f5.1.1.2 x hx).1
  simp only [mfitsB, Bool.and_eq_true, decide_eq_true_eq, stdL, trimM, List.cons.injEq, and_true, true_and] at h1
  obtain ⟨⟨⟨h2, h3⟩, h4⟩, h5⟩ := h1
  refine ⟨by omega, h2, ?_⟩
  unfold shapeB at h5
  split at h5
  ·omega
  ·split at h5
   ·omega
   ·split at h5
    ·omega
    ·cases h5
 ·have h1 := f6.1.2 x hx
  simp only [dep1B, depB, Bool.and_eq_true] at h1
  have h2 := wi_iff.1 h1.1.1.1.1.1.1
  have h3 := wi_iff.1 h1.1.1.1.1.1.2
  omega
 ·obtain ⟨k, hk, rfl⟩ := List.mem_iff_getElem.1 hx
  have h1 := (f6.2 k hk).1.1
  rw [gr_lt hk] at h1
  simp only [due1B, Bool.and_eq_true, acctB] at h1
  have h2 := wi_iff.1 h1.1.1.1
  have h3 := wi_iff.1 h1.1.1.2
  omega
 ·have h1 := (f7.2 x hx).1.1
  have ok := mok x hx
  simp only [motFits, motHead, motMid, Bool.and_eq_true, decide_eq_true_eq] at h1
  obtain ⟨⟨⟨⟨⟨⟨⟨a1, a2⟩, a3⟩, a4⟩, ⟨b1, b2⟩, b3⟩, cy⟩, cn⟩, h2⟩ := h1
  have fy := chk_len cy
  have fn := chk_len cn
  have a1 := wi_iff.1 a1
  have a2 := wi_iff.1 a2
  have a3 := wi_iff.1 a3
  have a4 := wi_iff.1 a4
  have b1 := wi_iff.1 b1
  have b2 := wi_iff.1 b2
  have u := ok.a
  exact ⟨by omega, by omega, fun e => by rw [if_pos e] at h2; exact h2, by omega, u, by omega, by omega, by omega, by omega, by omega, ok.p⟩
theorem ienc_any {s : StD} (v : SV) (hs : IsSt h v s) (fe : fewB s = true)
  (hk : ∀ h' r, PH.le h h' → (fitsS s = true → Ints h' .u8 r (encS s)) → (fitsS s = false → r = .slice none 0 0) → K (.tuple #[r, .int .i64 (if fitsS s then 0 else 291)]) L h') :
  Spec Tryz.prog 9 [stV s v] L h K :=
 ienc0_any v hs (fewB_S fe) (fun hf => stw_of hs (by have := few9_len (fewB_9 fe); omega) hf) (encS_byte hs) hk
end Go.X

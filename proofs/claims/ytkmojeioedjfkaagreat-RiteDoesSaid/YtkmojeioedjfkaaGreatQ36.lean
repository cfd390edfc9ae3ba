/- Lemmas and contracts for a statement about the given program. Conditions: as each says. -/
import Derived.Test.YtkmojeioedjfkaaGreatQ22
import Derived.Test.YtkmojeioedjfkaaGreatQ27
import Derived.Test.YtkmojeioedjfkaaGreatQ34
import Derived.Test.YtkmojeioedjfkaaGreatQ35
set_option linter.unusedVariables false
set_option linter.unusedSimpArgs false
set_option maxHeartbeats 12800000
set_option maxRecDepth 20000
namespace Go.X
open Go.RowKit Go.Proofs Go.Bl
variable {L : Own} {h : PH} {K : PK}
def accP (s : StD) (d : DeedD) : Int := if d.kind = 5 then 0 else if inP s.purses d.acct && (!(decide (d.kind = 1) || decide (d.what = 2)) || inP s.purses d.to) then 0 else 170
def memP (s : StD) (d : DeedD) : Int := if d.kind = 3 ∨ d.kind = 4 ∨ d.kind = 7 then (if d.mem < 0 ∨ (s.members.length : Int) ≤ d.mem then 190 else if (gr zeroM s.members d.mem.toNat).owner = d.acct then 0 else 192) else 0
def sendP (s : StD) (d : DeedD) : StD × Int := if (moveP s.purses d.acct d.to d.amt).2 = 0 then ({ s with purses := (moveP s.purses d.acct d.to d.amt).1 }, 0) else (s, (moveP s.purses d.acct d.to d.amt).2)
def stakeP (s : StD) (d : DeedD) : StD × Int :=
 if d.kind = 2 ∧ d.amt ≤ s.par.floor then (s, 250)
 else if (drawP s.purses d.acct d.amt).2 = 0 then
  (if (addP s.pool ⟨d.acct, d.mem, d.amt, decide (d.kind = 2)⟩).2 = 0 then ({ s with purses := (drawP s.purses d.acct d.amt).1, pool := (addP s.pool ⟨d.acct, d.mem, d.amt, decide (d.kind = 2)⟩).1 }, 0) else (s, (addP s.pool ⟨d.acct, d.mem, d.amt, decide (d.kind = 2)⟩).2))
 else (s, (drawP s.purses d.acct d.amt).2)
def leaveP (s : StD) (d : DeedD) : StD × Int :=
 if (gr zeroM s.members d.mem.toNat).status = 2 then ({ s with members := s.members.set d.mem.toNat { gr zeroM s.members d.mem.toNat with status := 3 }, exit := s.exit ++ [d.mem] }, 0) else (s, 191)
def markSP (s : StD) (d : DeedD) : StD × Int :=
 if d.ep = s.ep then (if (markP s.marks d.bits s.members.length).2 = 0 then ({ s with marks := (markP s.marks d.bits s.members.length).1 }, 0) else (s, (markP s.marks d.bits s.members.length).2)) else (s, 200)
def motP (s : StD) (d : DeedD) : StD × Int :=
 if (drawP s.purses d.acct s.par.bond).2 = 0 then
  (if (openP s.par s.motions d s.ep).2.2 = 0 then ({ s with purses := (drawP s.purses d.acct s.par.bond).1, motions := (openP s.par s.motions d s.ep).1, treas := s.treas + s.par.bond }, 0) else (s, (openP s.par s.motions d s.ep).2.2))
 else (s, (drawP s.purses d.acct s.par.bond).2)
def voteSP (s : StD) (d : DeedD) : StD × Int :=
 if (gr zeroM s.members d.mem.toNat).status = 2 ∨ (gr zeroM s.members d.mem.toNat).status = 3 then
  (if (voteP s.motions d.mot d.mem d.yes).2 = 0 then ({ s with motions := (voteP s.motions d.mot d.mem d.yes).1 }, 0) else (s, (voteP s.motions d.mot d.mem d.yes).2))
 else (s, 191)
def doP (s : StD) (d : DeedD) : StD × Int :=
 if accP s d ≠ 0 then (s, accP s d) else if memP s d ≠ 0 then (s, memP s d)
 else if d.kind = 1 then sendP s d else if d.kind = 2 ∨ d.kind = 3 then stakeP s d else if d.kind = 4 then leaveP s d else if d.kind = 5 then markSP s d else if d.kind = 6 then motP s d else voteSP s d
abbrev hB (bh : Nat) (s : StD) (v : SV) : Blk := ⟨bh, 124, stC s v, 41⟩
structure Hd (h : PH) (v : SV) (s : StD) : Prop where
 ok : StOk s
 p : Ints h .u64 v.p s.purses
 m : ∃ a c, v.m = .slice a s.members.length c
 mo : ∀ x ∈ s.members, MemOk x
 e : Ints h .i64 v.e s.entry
 x : ∃ a c, v.x = .slice a s.exit.length c
 o : Recs depC 4 h v.o s.pool
 oo : ∀ x ∈ s.pool, DepOk x
 d : Recs dueC 3 h v.d s.dues
 dd : ∀ x ∈ s.dues, DueOk x
 t : ∃ q : List QM, Recs motC 33 h v.t q ∧ q.map (fun x => x.2.2) = s.motions ∧ MotsOk h q
 k : Ints h .u8 v.k s.marks
 r : ∃ q, Strs h v.r q ∧ xsL q = s.ring
theorem Hd.up {h h' : PH} (le : PH.le h h') {v : SV} {s : StD} (hs : Hd h v s) : Hd h' v s := by
 obtain ⟨q, t1, t2, t3⟩ := hs.t
 obtain ⟨r, r1, r2⟩ := hs.r
 exact ⟨hs.ok, hs.p.up le, hs.m, hs.mo, hs.e.up le, hs.x, hs.o.up le, hs.oo, hs.d.up le, hs.dd, ⟨q, t1.up le, t2, fun x hx => (t3 x hx).up le⟩, hs.k.up le, ⟨r, r1.up le, r2⟩⟩
theorem Hd.setP {h : PH} {v : SV} {s : StD} (hs : Hd h v s) {w : Value} {xs : List Int} (hw : Ints h .u64 w xs) : Hd h { v with p := w } { s with purses := xs } :=
 ⟨⟨hs.ok.p, hs.ok.u, hs.ok.n⟩, hw, hs.m, hs.mo, hs.e, hs.x, hs.o, hs.oo, hs.d, hs.dd, hs.t, hs.k, hs.r⟩
theorem Hd.setO {h : PH} {v : SV} {s : StD} (hs : Hd h v s) {w : Value} {xs : List DepD} (hw : Recs depC 4 h w xs) (ho : ∀ x ∈ xs, DepOk x) : Hd h { v with o := w } { s with pool := xs } :=
 ⟨⟨hs.ok.p, hs.ok.u, hs.ok.n⟩, hs.p, hs.m, hs.mo, hs.e, hs.x, hw, ho, hs.d, hs.dd, hs.t, hs.k, hs.r⟩
theorem Hd.setK {h : PH} {v : SV} {s : StD} (hs : Hd h v s) {w : Value} {xs : List Int} (hw : Ints h .u8 w xs) : Hd h { v with k := w } { s with marks := xs } :=
 ⟨⟨hs.ok.p, hs.ok.u, hs.ok.n⟩, hs.p, hs.m, hs.mo, hs.e, hs.x, hs.o, hs.oo, hs.d, hs.dd, hs.t, hw, hs.r⟩
theorem Hd.setT {h : PH} {v : SV} {s : StD} (hs : Hd h v s) {w : Value} {ms : List MotD} {q : List QM} (hw : Recs motC 33 h w q) (hq : q.map (fun x => x.2.2) = ms) (hm : MotsOk h q) : Hd h { v with t := w } { s with motions := ms } :=
 ⟨⟨hs.ok.p, hs.ok.u, hs.ok.n⟩, hs.p, hs.m, hs.mo, hs.e, hs.x, hs.o, hs.oo, hs.d, hs.dd, ⟨q, hw, hq, hm⟩, hs.k, hs.r⟩
theorem Hd.setTr {h : PH} {v : SV} {s : StD} (hs : Hd h v s) {n : Int} (hn : 0 ≤ n ∧ n ≤ 18446744073709551615) : Hd h v { s with treas := n } :=
 ⟨⟨hs.ok.p, fun z hz => by
  simp only [List.mem_cons, List.not_mem_nil, or_false] at hz
  rcases hz with rfl | rfl | rfl | rfl | rfl
  ·exact hs.ok.u _ (by simp)
  ·exact hs.ok.u _ (by simp)
  ·exact hs.ok.u _ (by simp)
  ·exact hs.ok.u _ (by simp)
  ·exact hn, hs.ok.n⟩, hs.p, hs.m, hs.mo, hs.e, hs.x, hs.o, hs.oo, hs.d, hs.dd, hs.t, hs.k, hs.r⟩
theorem hsend_any {bh : Nat} {s : StD} {v : SV} {d : DeedD} {bv : Value} (hh : Hd h v s) (few : OwnFew s) (hd : IsDeed h bv d)
  (hk : ∀ h' v', PH.le h h' → Hd h' v' (sendP s d).1 → v'.m = v.m → v'.x = v.x → K (.int .i64 (sendP s d).2) (hB bh (sendP s d).1 v' :: L) h') :
  Spec Tryz.prog 115 [.pointer (some ⟨bh, 0, none⟩), deedV d bv] (hB bh s v :: L) h K := by
 obtain ⟨x1, y1, rfl, _⟩ := hd.i.open
 have ua := hd.ok.a
 refine x_enterA Tryz.func115 rfl (rs := [_]) rfl rfl mixed (by kernel_rfl) rfl rfl fun ap nd => ?_
 have hbh : h bh = noC := ap.1
 clear ap nd
 simp -dsimp -implicitDefEqProofs (disch := first|with_reducible assumption|omega) [go_sem]
 refine xnew fun b3 n_b3 h_b3 => ?_
 try simp only [Apart] at n_b3
 simp -dsimp -implicitDefEqProofs (disch := first|with_reducible assumption|omega) [go_sem]
 refine xanyl (.tk 0 (.tk 1 (.tk 2 (.tk 3 (.tk 5 (.tk 7 (.tk 9 (.tkl 4 (.tkl 6 (.tkl 8 (.tkl 10 (.or true 11 (.tk 12 (.tk 13 (.tk 14 (.tk 15 (.tk 16 (.fin)))))) (.nil))))))))))))) (by kernel_rfl) (by kernel_rfl) _ (Drop.refl _ _) ?_
 simp -dsimp -implicitDefEqProofs (disch := first|with_reducible assumption|omega) [go_sem]
 refine Spec.ap (move_any _ hh.p few.p d.acct d.to d.amt ua fun h2 r2 le2 i2 ap => ?_)
 simp only [Ap] at ap
 obtain ⟨a23, a2h, _⟩ := ap
 obtain ⟨ra, rc, rfl, _⟩ := i2.open
 refine xkp (Drop.forget le2) ?_
 have hst := hh.up le2
 unfold sendP at hk
 by_cases c1 : (moveP s.purses d.acct d.to d.amt).2 = 0
 ·rw [if_pos c1] at hk
  simp -dsimp -implicitDefEqProofs (disch := first|with_reducible assumption|omega) [go_sem]
  rw [c1]
  exact fin_tail (fin_here (hk h2 _ le2 (hst.setP i2) rfl rfl))
 ·rw [if_neg c1] at hk
  simp -dsimp -implicitDefEqProofs (disch := first|with_reducible assumption|omega) [go_sem]
  exact fin_tail (fin_here (hk h2 v le2 hst rfl rfl))
theorem addP_ok {l : List DepD} {d : DepD} (hl : ∀ x ∈ l, DepOk x) (hd : DepOk d) : ∀ x ∈ (addP l d).1, DepOk x := fun x hx => by
 unfold addP at hx
 split at hx
 ·split at hx
  ·rcases List.mem_append.1 hx with hx | hx
   ·exact hl x hx
   ·rw [List.mem_singleton.1 hx]; exact hd
  ·cases hx
 ·cases hx
theorem hstake_any {bh : Nat} {s : StD} {v : SV} {d : DeedD} {bv : Value} (hh : Hd h v s) (few : OwnFew s) (hd : IsDeed h bv d)
  (hk : ∀ h' v', PH.le h h' → Hd h' v' (stakeP s d).1 → v'.m = v.m → v'.x = v.x → K (.int .i64 (stakeP s d).2) (hB bh (stakeP s d).1 v' :: L) h') :
  Spec Tryz.prog 116 [.pointer (some ⟨bh, 0, none⟩), deedV d bv] (hB bh s v :: L) h K := by
 obtain ⟨x1, y1, rfl, _⟩ := hd.i.open
 have ua := hd.ok.a
 have dok : DepOk ⟨d.acct, d.mem, d.amt, decide (d.kind = 2)⟩ := by
  have hn := hd.ok.n
  simp only [List.forall_mem_cons] at hn
  exact ⟨ua, fun z hz => by
   simp only [List.mem_cons, List.not_mem_nil, or_false] at hz
   rcases hz with rfl | rfl <;> omega⟩
 refine x_enterA Tryz.func116 rfl (rs := [_]) rfl rfl mixed (by kernel_rfl) rfl rfl fun ap nd => ?_
 have hbh : h bh = noC := ap.1
 clear ap nd
 simp -dsimp -implicitDefEqProofs (disch := first|with_reducible assumption|omega) [go_sem]
 refine xnew fun b3 n_b3 h_b3 => ?_
 try simp only [Apart] at n_b3
 simp -dsimp -implicitDefEqProofs (disch := first|with_reducible assumption|omega) [go_sem]
 unfold stakeP at hk
 by_cases c1 : d.kind = 2
 ·rw [decide_eq_true c1] at hk dok
  simp -dsimp -implicitDefEqProofs (disch := first|with_reducible assumption|omega) [go_sem]
  refine xdraw (by kernel_rfl) rfl ?_
  simp -dsimp -implicitDefEqProofs (disch := first|with_reducible assumption|omega) [go_sem]
  by_cases c2 : d.amt ≤ s.par.floor
  ·rw [if_pos ⟨c1, c2⟩] at hk
   simp -dsimp -implicitDefEqProofs (disch := first|with_reducible assumption|omega) [go_sem]
   exact fin_tail (fin_here (hk h v (PH.le_refl _) hh rfl rfl))
  rw [if_neg (fun e => c2 e.2)] at hk
  simp -dsimp -implicitDefEqProofs (disch := first|with_reducible assumption|omega) [go_sem]
  refine xanyl (.tk 0 (.tk 1 (.tk 2 (.tk 3 (.tk 5 (.tk 7 (.tkl 4 (.tkl 6 (.tkl 8 (.or true 9 (.tk 10 (.tk 11 (.tk 12 (.tk 13 (.tk 14 (.fin)))))) (.nil))))))))))) (by kernel_rfl) (by kernel_rfl) _ (Drop.refl _ _) ?_
  simp -dsimp -implicitDefEqProofs (disch := first|with_reducible assumption|omega) [go_sem]
  refine Spec.ap (pdraw_any _ hh.p few.p d.acct d.amt ua fun h2 r2 le2 i2 ap => ?_)
  simp only [Ap] at ap
  obtain ⟨a23, a2h, _⟩ := ap
  obtain ⟨ra, rc, rfl, _⟩ := i2.open
  refine xkp (Drop.forget le2) ?_
  have hst := hh.up le2
  by_cases c3 : (drawP s.purses d.acct d.amt).2 = 0
  ·rw [if_pos c3] at hk
   simp -dsimp -implicitDefEqProofs (disch := first|with_reducible assumption|omega) [go_sem]
   refine xanyl (.tk 0 (.tk 1 (.tk 2 (.tk 3 (.tk 5 (.tk 7 (.tk 9 (.tk 11 (.tkl 4 (.tkl 6 (.tkl 8 (.tkl 10 (.tk 12 (.or true 13 (.tk 14 (.tk 15 (.tk 16 (.tk 17 (.tk 18 (.fin)))))) (.nil))))))))))))))) (by kernel_rfl) (by kernel_rfl) _ (Drop.refl _ _) ?_
   simp -dsimp -implicitDefEqProofs (disch := first|with_reducible assumption|omega) [go_sem]
   refine Spec.ap (paddG _ hst.o few.o ⟨d.acct, d.mem, d.amt, true⟩ dok fun h3 r3 le3 i3 ap => ?_)
   simp only [Ap] at ap
   obtain ⟨a33, a3h, _⟩ := ap
   obtain ⟨rb, rd, rfl, _⟩ := i3.open
   refine xkp (Drop.forget le3) ?_
   by_cases c4 : (addP s.pool ⟨d.acct, d.mem, d.amt, true⟩).2 = 0
   ·rw [if_pos c4] at hk
    have hd3 := addP_ok hst.oo dok
    simp -dsimp -implicitDefEqProofs (disch := first|with_reducible assumption|omega) [go_sem]
    exact fin_tail (fin_here (hk h3 _ (le2.trans le3) (((hst.up le3).setP (i2.up le3)).setO i3 hd3) rfl rfl))
   ·rw [if_neg c4] at hk
    simp -dsimp -implicitDefEqProofs (disch := first|with_reducible assumption|omega) [go_sem]
    exact fin_tail (fin_here (hk h3 v (le2.trans le3) (hst.up le3) rfl rfl))
  ·rw [if_neg c3] at hk
   simp -dsimp -implicitDefEqProofs (disch := first|with_reducible assumption|omega) [go_sem]
   exact fin_tail (fin_here (hk h2 v le2 hst rfl rfl))
 ·rw [decide_eq_false c1, if_neg (fun e => c1 e.1)] at hk
  rw [decide_eq_false c1] at dok
  simp -dsimp -implicitDefEqProofs (disch := first|with_reducible assumption|omega) [go_sem]
  refine xdraw (by kernel_rfl) rfl ?_
  simp -dsimp -implicitDefEqProofs (disch := first|with_reducible assumption|omega) [go_sem]
  refine xanyl (.tk 0 (.tk 1 (.tk 2 (.tk 3 (.tk 5 (.tk 7 (.tkl 4 (.tkl 6 (.tkl 8 (.or true 9 (.tk 10 (.tk 11 (.tk 12 (.tk 13 (.tk 14 (.fin)))))) (.nil))))))))))) (by kernel_rfl) (by kernel_rfl) _ (Drop.refl _ _) ?_
  simp -dsimp -implicitDefEqProofs (disch := first|with_reducible assumption|omega) [go_sem]
  refine Spec.ap (pdraw_any _ hh.p few.p d.acct d.amt ua fun h2 r2 le2 i2 ap => ?_)
  simp only [Ap] at ap
  obtain ⟨a23, a2h, _⟩ := ap
  obtain ⟨ra, rc, rfl, _⟩ := i2.open
  refine xkp (Drop.forget le2) ?_
  have hst := hh.up le2
  by_cases c3 : (drawP s.purses d.acct d.amt).2 = 0
  ·rw [if_pos c3] at hk
   simp -dsimp -implicitDefEqProofs (disch := first|with_reducible assumption|omega) [go_sem]
   refine xanyl (.tk 0 (.tk 1 (.tk 2 (.tk 3 (.tk 5 (.tk 7 (.tk 9 (.tk 11 (.tkl 4 (.tkl 6 (.tkl 8 (.tkl 10 (.tk 12 (.or true 13 (.tk 14 (.tk 15 (.tk 16 (.tk 17 (.tk 18 (.fin)))))) (.nil))))))))))))))) (by kernel_rfl) (by kernel_rfl) _ (Drop.refl _ _) ?_
   simp -dsimp -implicitDefEqProofs (disch := first|with_reducible assumption|omega) [go_sem]
   refine Spec.ap (paddG _ hst.o few.o ⟨d.acct, d.mem, d.amt, false⟩ dok fun h3 r3 le3 i3 ap => ?_)
   simp only [Ap] at ap
   obtain ⟨a33, a3h, _⟩ := ap
   obtain ⟨rb, rd, rfl, _⟩ := i3.open
   refine xkp (Drop.forget le3) ?_
   by_cases c4 : (addP s.pool ⟨d.acct, d.mem, d.amt, false⟩).2 = 0
   ·rw [if_pos c4] at hk
    have hd3 := addP_ok hst.oo dok
    simp -dsimp -implicitDefEqProofs (disch := first|with_reducible assumption|omega) [go_sem]
    exact fin_tail (fin_here (hk h3 _ (le2.trans le3) (((hst.up le3).setP (i2.up le3)).setO i3 hd3) rfl rfl))
   ·rw [if_neg c4] at hk
    simp -dsimp -implicitDefEqProofs (disch := first|with_reducible assumption|omega) [go_sem]
    exact fin_tail (fin_here (hk h3 v (le2.trans le3) (hst.up le3) rfl rfl))
  ·rw [if_neg c3] at hk
   simp -dsimp -implicitDefEqProofs (disch := first|with_reducible assumption|omega) [go_sem]
   exact fin_tail (fin_here (hk h2 v le2 hst rfl rfl))
theorem hmark_any {bh : Nat} {s : StD} {v : SV} {d : DeedD} {bv : Value} (hh : Hd h v s) (few : OwnFew s) (hd : IsDeed h bv d)
  (hk : ∀ h' v', PH.le h h' → Hd h' v' (markSP s d).1 → v'.m = v.m → v'.x = v.x → K (.int .i64 (markSP s d).2) (hB bh (markSP s d).1 v' :: L) h') :
  Spec Tryz.prog 118 [.pointer (some ⟨bh, 0, none⟩), deedV d bv] (hB bh s v :: L) h K := by
 obtain ⟨x1, y1, rfl, _⟩ := hd.i.open
 obtain ⟨ma, mc, em⟩ := hh.m
 have fm := few.m
 refine x_enterA Tryz.func118 rfl (rs := [_]) rfl rfl mixed (by kernel_rfl) rfl rfl fun ap nd => ?_
 have hbh : h bh = noC := ap.1
 clear ap nd
 simp -dsimp -implicitDefEqProofs (disch := first|with_reducible assumption|omega) [go_sem]
 refine xnew fun b3 n_b3 h_b3 => ?_
 try simp only [Apart] at n_b3
 simp -dsimp -implicitDefEqProofs (disch := first|with_reducible assumption|omega) [go_sem]
 refine xdraw (by kernel_rfl) rfl ?_
 simp -dsimp -implicitDefEqProofs (disch := first|with_reducible assumption|omega) [go_sem]
 unfold markSP at hk
 by_cases c1 : d.ep = s.ep
 ·rw [if_pos c1] at hk
  simp -dsimp -implicitDefEqProofs (disch := first|with_reducible assumption|omega) [go_sem]
  refine xanyl (.tk 0 (.tk 1 (.tk 2 (.tk 3 (.tk 5 (.tk 7 (.tk 8 (.tk 9 (.tk 10 (.tkl 4 (.tkl 6 (.tkl 11 (.tk 12 (.or true 13 (.tk 14 (.tk 15 (.tk 16 (.tk 17 (.tk 18 (.fin)))))) (.nil))))))))))))))) (by kernel_rfl) (by kernel_rfl) _ (Drop.refl _ _) ?_
  simp -dsimp -implicitDefEqProofs (disch := first|with_reducible assumption|omega) [go_sem, em]
  refine Spec.ap (mark_any _ _ hh.k hd.i s.members.length (by omega) fun h2 r2 le2 i2 ap => ?_)
  simp only [Ap] at ap
  obtain ⟨a23, a2h, _⟩ := ap
  obtain ⟨ra, rc, rfl, _⟩ := i2.open
  refine xkp (Drop.forget le2) ?_
  have hst := hh.up le2
  by_cases c2 : (markP s.marks d.bits s.members.length).2 = 0
  ·rw [if_pos c2] at hk
   simp -dsimp -implicitDefEqProofs (disch := first|with_reducible assumption|omega) [go_sem]
   rw [c2]
   exact fin_tail (fin_here (hk h2 _ le2 (hst.setK i2) rfl rfl))
  ·rw [if_neg c2] at hk
   simp -dsimp -implicitDefEqProofs (disch := first|with_reducible assumption|omega) [go_sem]
   exact fin_tail (fin_here (hk h2 v le2 hst rfl rfl))
 ·rw [if_neg c1] at hk
  simp -dsimp -implicitDefEqProofs (disch := first|with_reducible assumption|omega) [go_sem]
  exact fin_tail (fin_here (hk h v (PH.le_refl _) hh rfl rfl))
theorem hmove_any {bh : Nat} {s : StD} {v : SV} {d : DeedD} {bv : Value} (hh : Hd h v s) (few : OwnFew s) (hd : IsDeed h bv d) (ht : s.treas + s.par.bond ≤ 18446744073709551615)
  (hk : ∀ h' v', PH.le h h' → Hd h' v' (motP s d).1 → v'.m = v.m → v'.x = v.x → K (.int .i64 (motP s d).2) (hB bh (motP s d).1 v' :: L) h') :
  Spec Tryz.prog 119 [.pointer (some ⟨bh, 0, none⟩), deedV d bv] (hB bh s v :: L) h K := by
 have hd0 := hd
 obtain ⟨x1, y1, rfl, _⟩ := hd.i.open
 have ub : 0 ≤ s.par.bond ∧ s.par.bond ≤ 18446744073709551615 := hh.ok.p.1 _ (by simp [wides])
 have ut : 0 ≤ s.treas ∧ s.treas ≤ 18446744073709551615 := hh.ok.u _ (by simp)
 obtain ⟨q, t1, t2, t3⟩ := hh.t
 have hql : q.length = s.motions.length := by rw [← t2, List.length_map]
 have ft := few.t
 refine x_enterA Tryz.func119 rfl (rs := [_]) rfl rfl mixed (by kernel_rfl) rfl rfl fun ap nd => ?_
 have hbh : h bh = noC := ap.1
 clear ap nd
 simp -dsimp -implicitDefEqProofs (disch := first|with_reducible assumption|omega) [go_sem]
 refine xnew fun b3 n_b3 h_b3 => ?_
 try simp only [Apart] at n_b3
 simp -dsimp -implicitDefEqProofs (disch := first|with_reducible assumption|omega) [go_sem]
 refine xanyl (.tk 0 (.tk 1 (.tk 2 (.tk 3 (.tk 5 (.tk 7 (.tk 8 (.tk 9 (.tk 10 (.tk 11 (.tkl 4 (.tkl 6 (.tkl 12 (.or true 13 (.tk 14 (.tk 15 (.tk 16 (.tk 17 (.tk 18 (.fin)))))) (.nil))))))))))))))) (by kernel_rfl) (by kernel_rfl) _ (Drop.refl _ _) ?_
 simp -dsimp -implicitDefEqProofs (disch := first|with_reducible assumption|omega) [go_sem]
 refine Spec.ap (pdraw_any _ hh.p few.p d.acct s.par.bond ub fun h2 r2 le2 i2 ap => ?_)
 simp only [Ap] at ap
 obtain ⟨a23, a2h, _⟩ := ap
 obtain ⟨ra, rc, rfl, _⟩ := i2.open
 refine xkp (Drop.forget le2) ?_
 have hst := hh.up le2
 unfold motP at hk
 by_cases c1 : (drawP s.purses d.acct s.par.bond).2 = 0
 ·rw [if_pos c1] at hk
  simp -dsimp -implicitDefEqProofs (disch := first|with_reducible assumption|omega) [go_sem]
  refine xanyl (.tk 0 (.tk 1 (.tk 2 (.tk 3 (.tk 5 (.tk 6 (.tk 7 (.tk 8 (.tk 11 (.tk 12 (.tk 13 (.tk 14 (.tkl 4 (.tkl 9 (.tkl 10 (.tkl 15 (.or true 16 (.tk 17 (.tk 18 (.tk 19 (.tk 20 (.tk 21 (.tk 22 (.tk 23 (.fin)))))))) (.nil)))))))))))))))))) (by kernel_rfl) (by kernel_rfl) _ (Drop.refl _ _) ?_
  simp -dsimp -implicitDefEqProofs (disch := first|with_reducible assumption|omega) [go_sem]
  refine Spec.ap (mopen_any _ _ hh.ok.p (t1.up le2) t2 (fun x hx => (t3 x hx).up le2) (by omega) few.v (hd0.up le2) s.ep fun h3 r3 q3 le3 i3 e3 m3 ap => ?_)
  simp only [Ap] at ap
  obtain ⟨a33, a3h, _⟩ := ap
  obtain ⟨rb, rd, rfl, _⟩ := i3.open
  refine xkp (Drop.forget le3) ?_
  by_cases c2 : (openP s.par s.motions d s.ep).2.2 = 0
  ·rw [if_pos c2] at hk
   simp -dsimp -implicitDefEqProofs (disch := first|with_reducible assumption|omega) [go_sem]
   refine xanyl (.tk 0 (.tk 1 (.tk 2 (.tk 3 (.tk 5 (.tk 6 (.tk 7 (.tk 8 (.tk 9 (.tkl 4 (.tkl 10 (.or true 11 (.tk 12 (.tk 13 (.tk 14 (.tk 15 (.tk 16 (.fin)))))) (.nil))))))))))))) (by kernel_rfl) (by kernel_rfl) _ (Drop.refl _ _) ?_
   simp -dsimp -implicitDefEqProofs (disch := first|with_reducible assumption|omega) [go_sem]
   refine madd_any _ _ ut ub ?_
   rw [sumV, if_pos ht]
   refine xkp (Drop.refl _ _) ?_
   simp -dsimp -implicitDefEqProofs (disch := first|with_reducible assumption|omega) [go_sem]
   exact fin_tail (fin_here (hk h3 _ (le2.trans le3) ((((hst.up le3).setP (i2.up le3)).setT i3 e3 m3).setTr ⟨by omega, ht⟩) rfl rfl))
  ·rw [if_neg c2] at hk
   simp -dsimp -implicitDefEqProofs (disch := first|with_reducible assumption|omega) [go_sem]
   exact fin_tail (fin_here (hk h3 v (le2.trans le3) (hst.up le3) rfl rfl))
 ·rw [if_neg c1] at hk
  simp -dsimp -implicitDefEqProofs (disch := first|with_reducible assumption|omega) [go_sem]
  exact fin_tail (fin_here (hk h2 v le2 hst rfl rfl))
theorem hpurse_any {bh : Nat} {s : StD} {v : SV} (hp : Ints h .u64 v.p s.purses) (i : Int) (hk : K (.bool (inP s.purses i)) (hB bh s v :: L) h) :
  Spec Tryz.prog 168 [.pointer (some ⟨bh, 0, none⟩), .int .i64 i] (hB bh s v :: L) h K := by
 unfold inP at hk
 obtain ⟨pa, pc, ep, _⟩ := hp.open
 refine x_enterA Tryz.func168 rfl (rs := [_]) rfl rfl mixed (by kernel_rfl) rfl rfl fun ap nd => ?_
 have hbh : h bh = noC := ap.1
 clear ap nd
 simp -dsimp -implicitDefEqProofs (disch := first|with_reducible assumption|omega) [go_sem]
 by_cases c1 : 0 ≤ i
 ·rw [decide_eq_true c1, Bool.true_and] at hk
  simp -dsimp -implicitDefEqProofs (disch := first|with_reducible assumption|omega) [go_sem, ep]
  exact fin_here hk
 ·rw [decide_eq_false c1, Bool.false_and] at hk
  simp -dsimp -implicitDefEqProofs (disch := first|with_reducible assumption|omega) [go_sem]
  exact fin_here hk
theorem haccounts_any {bh : Nat} {s : StD} {v : SV} {d : DeedD} {bv : Value} (hp : Ints h .u64 v.p s.purses) (hd : IsDeed h bv d) (hk : K (.int .i64 (accP s d)) (hB bh s v :: L) h) :
  Spec Tryz.prog 113 [.pointer (some ⟨bh, 0, none⟩), deedV d bv] (hB bh s v :: L) h K := by
 obtain ⟨x1, y1, rfl, _⟩ := hd.i.open
 refine x_enterA Tryz.func113 rfl (rs := [_]) rfl rfl mixed (by kernel_rfl) rfl rfl fun ap nd => ?_
 have hbh : h bh = noC := ap.1
 clear ap nd
 simp -dsimp -implicitDefEqProofs (disch := first|with_reducible assumption|omega) [go_sem]
 refine xnew fun b3 n_b3 h_b3 => ?_
 try simp only [Apart] at n_b3
 simp -dsimp -implicitDefEqProofs (disch := first|with_reducible assumption|omega) [go_sem]
 unfold accP at hk
 by_cases c1 : d.kind = 5
 ·rw [if_pos c1] at hk
  simp -dsimp -implicitDefEqProofs (disch := first|with_reducible assumption|omega) [go_sem]
  exact fin_tail (fin_here hk)
 rw [if_neg c1] at hk
 simp -dsimp -implicitDefEqProofs (disch := first|with_reducible assumption|omega) [go_sem]
 refine Spec.weaken (Drop.perm h (List.Perm.swap _ _ _)) ?_
 refine hpurse_any hp _ ?_
 have ne3 : bh ≠ b3 := n_b3.1
 have done : ∀ z : Int, K (.int .i64 z) (hB bh s v :: L) h → fin K (.int .i64 z) (hB bh s v :: ⟨b3, 52, deedC d (.slice x1 d.bits.length y1), 34⟩ :: L) h := fun z hz => ⟨_, _, (Drop.perm h (List.Perm.swap _ _ _)).trans (Drop.tail _ _ _), hz⟩
 cases c2 : inP s.purses d.acct with
 | false =>
  rw [c2, Bool.false_and, if_neg (by decide)] at hk
  simp -dsimp -implicitDefEqProofs (disch := first|with_reducible assumption|omega) [go_sem]
  exact done _ hk
 | true =>
 rw [c2, Bool.true_and] at hk
 by_cases c3 : d.kind = 1
 ·rw [decide_eq_true c3, Bool.true_or, Bool.not_true, Bool.false_or] at hk
  simp -dsimp -implicitDefEqProofs (disch := first|with_reducible assumption|omega) [go_sem]
  refine hpurse_any hp _ ?_
  cases c4 : inP s.purses d.to with
  | false =>
   rw [c4, if_neg (by decide)] at hk
   simp -dsimp -implicitDefEqProofs (disch := first|with_reducible assumption|omega) [go_sem]
   exact done _ hk
  | true =>
   rw [c4, if_pos rfl] at hk
   simp -dsimp -implicitDefEqProofs (disch := first|with_reducible assumption|omega) [go_sem]
   exact done _ hk
 ·by_cases c5 : d.what = 2
  ·rw [decide_eq_true c5, Bool.or_true, Bool.not_true, Bool.false_or] at hk
   simp -dsimp -implicitDefEqProofs (disch := first|with_reducible assumption|omega) [go_sem]
   refine hpurse_any hp _ ?_
   cases c4 : inP s.purses d.to with
   | false =>
    rw [c4, if_neg (by decide)] at hk
    simp -dsimp -implicitDefEqProofs (disch := first|with_reducible assumption|omega) [go_sem]
    exact done _ hk
   | true =>
    rw [c4, if_pos rfl] at hk
    simp -dsimp -implicitDefEqProofs (disch := first|with_reducible assumption|omega) [go_sem]
    exact done _ hk
  ·rw [decide_eq_false c3, decide_eq_false c5, Bool.or_false, Bool.not_false, Bool.true_or, if_pos rfl] at hk
   simp -dsimp -implicitDefEqProofs (disch := first|with_reducible assumption|omega) [go_sem]
   exact done _ hk
abbrev mB (bm cm : Nat) (ms : List MemD) : Blk := ⟨bm, 89, ms.flatMap memC, cm * 6⟩
abbrev fullO (bh : Nat) (ox om : Option (Nat × Nat)) (s : StD) (v : SV) (L : Own) : Own := hB bh s v :: oent 3 1 ox (s.exit.map (.int .i64)) (oent 89 6 om (s.members.flatMap memC) L)
theorem full_facts {ox : Option (Nat × Nat)} {e : Blk} {xs : List Value} {x : Blk} (ap : Ap (e :: oent 3 1 ox xs (x :: L)) h) (nd : Nd (e :: oent 3 1 ox xs (x :: L))) : h e.b = noC ∧ h x.b = noC ∧ apB ox x.b ∧ e.b ≠ x.b ∧ apB ox e.b := by
 cases ox with
 | none => exact ⟨ap.1, ap.2.1, trivial, Ne.symm nd.1.1, trivial⟩
 | some p => exact ⟨ap.1, ap.2.2.1, Ne.symm nd.2.1.1, Ne.symm nd.1.2.1, nd.1.1⟩
theorem hmembers_any {bh : Nat} {ox om : Option (Nat × Nat)} {s : StD} {v : SV} {d : DeedD} {bv : Value} (hd : IsDeed h bv d) (hm : v.m = ovs om s.members.length) (okm : okO om s.members.length) (hl : s.members.length ≤ 1000) (hk : K (.int .i64 (memP s d)) (fullO bh ox om s v L) h) :
  Spec Tryz.prog 114 [.pointer (some ⟨bh, 0, none⟩), deedV d bv] (fullO bh ox om s v L) h K := by
 obtain ⟨x1, y1, rfl, _⟩ := hd.i.open
 obtain ⟨ma, mc, em, _⟩ := ovs_open okm
 refine x_enterA Tryz.func114 rfl (rs := [_]) rfl rfl mixed (by kernel_rfl) rfl rfl fun ap nd => ?_
 have hbh : h bh = noC := ap.1
 have done : ∀ (b3 : Nat) (z : Int), K (.int .i64 z) (fullO bh ox om s v L) h → fin K (.int .i64 z) (⟨b3, 52, deedC d (.slice x1 d.bits.length y1), 34⟩ :: fullO bh ox om s v L) h := fun b3 z hz => fin_tail (fin_here hz)
 simp -dsimp -implicitDefEqProofs (disch := first|with_reducible assumption|omega) [go_sem]
 refine xnew fun b3 n_b3 h_b3 => ?_
 try simp only [Apart] at n_b3
 simp -dsimp -implicitDefEqProofs (disch := first|with_reducible assumption|omega) [go_sem]
 unfold memP at hk
 by_cases c1 : d.kind = 3 ∨ d.kind = 4 ∨ d.kind = 7
 ·rw [if_pos c1] at hk
  have c9 : d.kind = 3 ∨ (¬ d.kind = 3 ∧ d.kind = 4) ∨ (¬ d.kind = 3 ∧ ¬ d.kind = 4 ∧ d.kind = 7) := by omega
  have em' : ovs om s.members.length = .slice ma s.members.length mc := em
  rcases c9 with c9 | ⟨c8, c9⟩ | ⟨c7, c8, c9⟩
  all_goals
   simp -dsimp -implicitDefEqProofs (disch := first|with_reducible assumption|omega) [go_sem]
   by_cases c2 : d.mem < 0
   ·rw [if_pos (Or.inl c2)] at hk
    refine xdraw (by kernel_rfl) rfl ?_
    simp -dsimp -implicitDefEqProofs (disch := first|with_reducible assumption|omega) [go_sem]
    exact done _ _ hk
   by_cases c3 : (s.members.length : Int) ≤ d.mem
   ·rw [if_pos (Or.inr c3)] at hk
    refine xdraw (by kernel_rfl) rfl ?_
    simp -dsimp -implicitDefEqProofs (disch := first|with_reducible assumption|omega) [go_sem, hm, em']
    exact done _ _ hk
   rw [if_neg (by omega)] at hk
   refine xdraw (by kernel_rfl) rfl ?_
   simp -dsimp -implicitDefEqProofs (disch := first|with_reducible assumption|omega) [go_sem, hm, em']
   obtain ⟨bm, cm, eom⟩ : ∃ bm cm, om = some (bm, cm) := by
    cases om with
    | none => have : s.members.length = 0 := okm; omega
    | some p => exact ⟨_, _, rfl⟩
   obtain ⟨j, hj⟩ := Int.eq_ofNat_of_zero_le (Int.not_lt.1 c2)
   have hjl : j < s.members.length := by omega
   have ejn : d.mem.toNat = j := by omega
   rw [ejn] at hk
   subst eom
   simp only [ovs, Value.slice.injEq] at em
   obtain ⟨rfl, _, rfl⟩ := em
   obtain ⟨_, hbm, nxm, nhm, nxh⟩ := full_facts ap nd
   simp only at hbm nxm nhm
   have n3m : bm ≠ b3 := of_apart n_b3.2 _ (mem_oent List.mem_cons_self)
   have n3h : bh ≠ b3 := n_b3.1
   have hfl : (s.members.flatMap memC).length = s.members.length * 6 := flatG_len memC_len _
   have hsum : (s.members.map fun a => (memC a).length).sum = s.members.length * 6 := by rw [← List.length_flatMap, hfl]
   have hj6 := flat_lt (n := s.members.length) (w := 6) hjl (m := 5) (by decide)
   have g4 : ∀ (K : Value → Prop) (t : Tok K), xNth (s.members.flatMap memC) (j * 6 + 4) K t = K (.int .i64 (gr zeroM s.members j).owner) := fun K t => xNth_rec memC_len zeroM s.members hjl (by decide) rfl K t
   refine xdraw (by kernel_rfl) rfl ?_
   have em2 : v.m = .slice (some ⟨bm, 0, none⟩) s.members.length cm := hm
   simp -dsimp -implicitDefEqProofs (disch := first|with_reducible assumption|omega) [go_sem, hj, em2, xFind_oent nxm, oent_some, g4]
   by_cases c4 : (gr zeroM s.members j).owner = d.acct
   ·rw [if_pos c4] at hk
    simp -dsimp -implicitDefEqProofs (disch := first|with_reducible assumption|omega) [go_sem]
    exact done _ _ hk
   ·rw [if_neg c4] at hk
    simp -dsimp -implicitDefEqProofs (disch := first|with_reducible assumption|omega) [go_sem]
    exact done _ _ hk
 ·rw [if_neg c1] at hk
  have c11 : ¬ d.kind = 3 := fun e => c1 (Or.inl e)
  have c12 : ¬ d.kind = 4 := fun e => c1 (Or.inr (Or.inl e))
  have c13 : ¬ d.kind = 7 := fun e => c1 (Or.inr (Or.inr e))
  simp -dsimp -implicitDefEqProofs (disch := first|with_reducible assumption|omega) [go_sem]
  exact done _ _ hk
theorem memX {ms : List MemD} {j : Nat} (hj : j < ms.length) : (∀ (K : Value → Prop) (t : Tok K), xNth (ms.flatMap memC) (j * 6) K t = K (.int .u64 (gr zeroM ms j).bal)) ∧ (∀ (K : Value → Prop) (t : Tok K), xNth (ms.flatMap memC) (j * 6 + 1) K t = K (.int .u64 (gr zeroM ms j).eff)) ∧
  (∀ (K : Value → Prop) (t : Tok K), xNth (ms.flatMap memC) (j * 6 + 2) K t = K (.int .u64 (gr zeroM ms j).score)) ∧ (∀ (K : Value → Prop) (t : Tok K), xNth (ms.flatMap memC) (j * 6 + 3) K t = K (.int .i64 (gr zeroM ms j).streak)) ∧
  (∀ (K : Value → Prop) (t : Tok K), xNth (ms.flatMap memC) (j * 6 + 4) K t = K (.int .i64 (gr zeroM ms j).owner)) ∧ (∀ (K : Value → Prop) (t : Tok K), xNth (ms.flatMap memC) (j * 6 + 5) K t = K (.int .i64 (gr zeroM ms j).status)) :=
 ⟨fun K t => xNth_rec memC_len zeroM ms hj (m := 0) (by decide) rfl K t, fun K t => xNth_rec memC_len zeroM ms hj (by decide) rfl K t, fun K t => xNth_rec memC_len zeroM ms hj (by decide) rfl K t, fun K t => xNth_rec memC_len zeroM ms hj (by decide) rfl K t, fun K t => xNth_rec memC_len zeroM ms hj (by decide) rfl K t, fun K t => xNth_rec memC_len zeroM ms hj (by decide) rfl K t⟩
theorem hvote_any {bh bm cm : Nat} {ox : Option (Nat × Nat)} {s : StD} {v : SV} {d : DeedD} {bv : Value} (hh : Hd h v s) (few : OwnFew s) (hd : IsDeed h bv d) (hm : v.m = .slice (some ⟨bm, 0, none⟩) s.members.length cm) (h0 : 0 ≤ d.mem) (hjl : d.mem.toNat < s.members.length) (hml : s.members.length ≤ 128) (h16 : ∀ m ∈ s.motions, m.yes.length = 16 ∧ m.no.length = 16)
  (hk : ∀ h' v', PH.le h h' → Hd h' v' (voteSP s d).1 → v'.m = v.m → v'.x = v.x → K (.int .i64 (voteSP s d).2) (hB bh (voteSP s d).1 v' :: oent 3 1 ox (s.exit.map (.int .i64)) (mB bm cm s.members :: L)) h') :
  Spec Tryz.prog 120 [.pointer (some ⟨bh, 0, none⟩), deedV d bv] (hB bh s v :: oent 3 1 ox (s.exit.map (.int .i64)) (mB bm cm s.members :: L)) h K := by
 obtain ⟨x1, y1, rfl, _⟩ := hd.i.open
 obtain ⟨q, t1, t2, t3⟩ := hh.t
 have hql : q.length = s.motions.length := by rw [← t2, List.length_map]
 have ft := few.t
 have um : -9223372036854775808 ≤ d.mot ∧ d.mot ≤ 9223372036854775807 := hd.ok.n _ (by simp)
 refine x_enterA Tryz.func120 rfl (rs := [_]) rfl rfl mixed (by kernel_rfl) rfl rfl fun ap nd => ?_
 obtain ⟨hbh, hbm, nxm, nhm, nxh⟩ := full_facts ap nd
 simp only at hbm nxm nhm hbh
 simp -dsimp -implicitDefEqProofs (disch := first|with_reducible assumption|omega) [go_sem]
 refine xnew fun b3 n_b3 h_b3 => ?_
 try simp only [Apart] at n_b3
 have n3m : bm ≠ b3 := of_apart n_b3.2 _ (mem_oent List.mem_cons_self)
 have n3h : bh ≠ b3 := n_b3.1
 have hfl : (s.members.flatMap memC).length = s.members.length * 6 := flatG_len memC_len _
 have hsum : (s.members.map fun a => (memC a).length).sum = s.members.length * 6 := by rw [← List.length_flatMap, hfl]
 have hj6 := flat_lt (n := s.members.length) (w := 6) hjl (m := 5) (by decide)
 obtain ⟨g0, g1, g2, g3, g4, g5⟩ := memX hjl
 simp -dsimp -implicitDefEqProofs (disch := first|with_reducible assumption|omega) [go_sem]
 refine xanyl (.tk 0 (.tk 1 (.tk 2 (.tk 3 (.tk 5 (.tkl 4 (.tkl 6 (.tk 7 (.tkl 8 (.or true 9 (.tk 10 (.fin)) (.nil))))))))))) (by kernel_rfl) (by kernel_rfl) _ (Drop.refl _ _) ?_
 simp -dsimp -implicitDefEqProofs (disch := first|with_reducible assumption|omega) [go_sem, hm, xFind_oent nxm, g0, g1, g2, g3, g4, g5]
 refine counts_any (gr zeroM s.members d.mem.toNat) ?_
 refine xkp (Drop.refl _ _) ?_
 unfold voteSP at hk
 by_cases c1 : (gr zeroM s.members d.mem.toNat).status = 2 ∨ (gr zeroM s.members d.mem.toNat).status = 3
 ·rw [if_pos c1] at hk
  rw [decide_eq_true c1]
  simp -dsimp -implicitDefEqProofs (disch := first|with_reducible assumption|omega) [go_sem]
  refine xanyl (.tk 0 (.tk 1 (.tk 2 (.tk 3 (.tk 5 (.tk 7 (.tk 9 (.tkl 4 (.tkl 6 (.tkl 8 (.tkl 10 (.or true 11 (.tk 12 (.tk 13 (.tk 14 (.tk 15 (.tk 16 (.fin)))))) (.nil))))))))))))) (by kernel_rfl) (by kernel_rfl) _ (Drop.refl _ _) ?_
  simp -dsimp -implicitDefEqProofs (disch := first|with_reducible assumption|omega) [go_sem]
  refine Spec.ap (mvote_any _ t1 t2 t3 (by omega) h16 d.mot d.mem um (by omega) d.yes fun h3 r3 q3 le3 i3 e3 m3 ap => ?_)
  obtain ⟨ra, rc, rfl, _⟩ := i3.open
  have ap3 : h3 b3 = noC ∧ h3 bh = noC := ⟨ap.1, ap.2.1⟩
  obtain ⟨a33, a3h⟩ := ap3
  refine xkp (Drop.forget le3) ?_
  by_cases c2 : (voteP s.motions d.mot d.mem d.yes).2 = 0
  ·rw [if_pos c2] at hk
   simp -dsimp -implicitDefEqProofs (disch := first|with_reducible assumption|omega) [go_sem]
   rw [c2]
   exact fin_tail (fin_here (hk h3 _ le3 ((hh.up le3).setT i3 e3 m3) rfl rfl))
  ·rw [if_neg c2] at hk
   simp -dsimp -implicitDefEqProofs (disch := first|with_reducible assumption|omega) [go_sem]
   exact fin_tail (fin_here (hk h3 v le3 (hh.up le3) rfl rfl))
 ·rw [if_neg c1] at hk
  rw [decide_eq_false c1]
  simp -dsimp -implicitDefEqProofs (disch := first|with_reducible assumption|omega) [go_sem]
  exact fin_tail (fin_here (hk h v (PH.le_refl _) hh rfl rfl))
theorem hleave_any {bh bm cm : Nat} {ox : Option (Nat × Nat)} {s : StD} {v : SV} {d : DeedD} {bv : Value} (hh : Hd h v s) (few : OwnFew s) (hd : IsDeed h bv d) (hm : v.m = .slice (some ⟨bm, 0, none⟩) s.members.length cm) (hx : v.x = ovs ox s.exit.length) (okx : okO ox s.exit.length) (h0 : 0 ≤ d.mem) (hjl : d.mem.toNat < s.members.length) (hml : s.members.length ≤ 128)
  (hk : ∀ v' ox', Hd h v' (leaveP s d).1 → v'.m = v.m → v'.x = ovs ox' (leaveP s d).1.exit.length → okO ox' (leaveP s d).1.exit.length → K (.int .i64 (leaveP s d).2) (hB bh (leaveP s d).1 v' :: oent 3 1 ox' ((leaveP s d).1.exit.map (.int .i64)) (mB bm cm (leaveP s d).1.members :: L)) h) :
  Spec Tryz.prog 117 [.pointer (some ⟨bh, 0, none⟩), deedV d bv] (hB bh s v :: oent 3 1 ox (s.exit.map (.int .i64)) (mB bm cm s.members :: L)) h K := by
 obtain ⟨x1, y1, rfl, _⟩ := hd.i.open
 have fx := few.x
 refine x_enterA Tryz.func117 rfl (rs := [_]) rfl rfl mixed (by kernel_rfl) rfl rfl fun ap nd => ?_
 obtain ⟨hbh, hbm, nxm, nhm, nxh⟩ := full_facts ap nd
 simp only at hbm nxm nhm hbh
 simp -dsimp -implicitDefEqProofs (disch := first|with_reducible assumption|omega) [go_sem]
 refine xnew fun b3 n_b3 h_b3 => ?_
 try simp only [Apart] at n_b3
 have n3m : bm ≠ b3 := of_apart n_b3.2 _ (mem_oent List.mem_cons_self)
 have n3h : bh ≠ b3 := n_b3.1
 have hfl : (s.members.flatMap memC).length = s.members.length * 6 := flatG_len memC_len _
 have hsum : (s.members.map fun a => (memC a).length).sum = s.members.length * 6 := by rw [← List.length_flatMap, hfl]
 have hj6 := flat_lt (n := s.members.length) (w := 6) hjl (m := 5) (by decide)
 obtain ⟨g0, g1, g2, g3, g4, g5⟩ := memX hjl
 simp -dsimp -implicitDefEqProofs (disch := first|with_reducible assumption|omega) [go_sem]
 refine xdraw (by kernel_rfl) rfl ?_
 simp -dsimp -implicitDefEqProofs (disch := first|with_reducible assumption|omega) [go_sem, hm, xFind_oent nxm, g5]
 unfold leaveP at hk
 by_cases c1 : (gr zeroM s.members d.mem.toNat).status = 2
 ·rw [if_pos c1] at hk
  simp -dsimp -implicitDefEqProofs (disch := first|with_reducible assumption|omega) [go_sem, hm, xFind_oent nxm, xSet_oent nxm]
  refine ⟨by omega, ?_⟩
  rw [flatG_set (m := 5) memC_len zeroM s.members hjl (by decide) (a' := { gr zeroM s.members d.mem.toNat with status := 3 }) rfl]
  refine xanyl (.tk 0 (.tk 1 (.tk 2 (.tk 3 (.tk 4 (.tk 6 (.tkl 5 (.tkl 7 (.or true 8 (.or true 9 (.tk 10 (.tk 11 (.tk 12 (.or false 13 (.fin) (.nil))))) (.nil)) (.nil)))))))))) (by kernel_rfl) (by kernel_rfl) [⟨b3, 52, deedC d (.slice x1 d.bits.length y1), 34⟩, hB bh s v] (Drop.sub (.cons_cons _ (.cons_cons _ (List.nil_sublist _)))) ?_
  simp -dsimp -implicitDefEqProofs (disch := first|with_reducible assumption|omega) [go_sem, hx]
  refine xnew fun b5 n_b5 h_b5 => ?_
  try simp only [Apart] at n_b5
  refine xkp ((Drop.tail _ _ _).trans (Drop.sub (.cons_cons _ (.cons_cons _ (List.nil_sublist _))))) ?_
  simp -dsimp -implicitDefEqProofs (disch := first|with_reducible assumption|omega) [go_sem, hx]
  refine xappend (t := 34) (e := 3) (sz := 1) (bytes := 8) (by kernel_rfl) tI_3 rfl rfl rfl rfl (by decide) [_, _, _] _ ox s.exit.length (s.exit.map (.int .i64)) okx (by simp) (Src.own (b := b5) (t := 3) (cap := 1) List.mem_cons_self) (m := 1) (news := [.int .i64 d.mem]) rfl (by intro u hu; simp only [List.mem_singleton] at hu; subst hu; rfl) (by simp [maxLen]; omega) (by omega) ?_
  intro o' j1 j2 j3
  simp only [List.cons_append, List.nil_append] at j2 ⊢
  refine xkp ((Drop.tail _ _ _).trans (Drop.sub (.cons_cons _ (.cons_cons _ (List.nil_sublist _))))) ?_
  obtain ⟨oa2, oc2, eo2, _⟩ := ovs_open j1
  simp -dsimp -implicitDefEqProofs (disch := first|with_reducible assumption|omega) [go_sem, eo2]
  have hold : MemOk (gr zeroM s.members d.mem.toNat) := hh.mo _ (by rw [gr_lt hjl]; exact List.getElem_mem hjl)
  have hnew : MemOk { gr zeroM s.members d.mem.toNat with status := 3 } := ⟨hold.u, fun z hz => by
   simp only [List.mem_cons, List.not_mem_nil, or_false] at hz
   rcases hz with rfl | rfl | rfl
   ·exact hold.n _ (by simp)
   ·exact hold.n _ (by simp)
   ·omega⟩
  have hHd : Hd h { v with x := .slice oa2 (s.exit.length + 1) oc2 } { s with members := s.members.set d.mem.toNat { gr zeroM s.members d.mem.toNat with status := 3 }, exit := s.exit ++ [d.mem] } :=
   ⟨⟨hh.ok.p, hh.ok.u, hh.ok.n⟩, hh.p, ⟨_, _, by simp only [List.length_set]; exact hm⟩, fun x hx => (List.mem_or_eq_of_mem_set hx).elim (hh.mo x) (fun e => e ▸ hnew), hh.e, ⟨oa2, oc2, by simp only [List.length_append, List.length_cons, List.length_nil]⟩, hh.o, hh.oo, hh.d, hh.dd, hh.t, hh.k, hh.r⟩
  have hlen : (s.exit ++ [d.mem]).length = s.exit.length + 1 := by simp
  have := hk { v with x := .slice oa2 (s.exit.length + 1) oc2 } o' hHd rfl (by simp only [hlen]; exact eo2.symm) (by simp only [hlen]; exact j1)
  simp only [List.map_append, List.map_cons, List.map_nil] at this
  exact fin_tail (fin_tail (fin_here this))
 ·rw [if_neg c1] at hk
  simp -dsimp -implicitDefEqProofs (disch := first|with_reducible assumption|omega) [go_sem]
  exact fin_tail (fin_here (hk v ox hh rfl hx okx))
theorem sendP_me (s : StD) (d : DeedD) : (sendP s d).1.members = s.members ∧ (sendP s d).1.exit = s.exit := by
 unfold sendP
 repeat' split
 all_goals exact ⟨rfl, rfl⟩
theorem stakeP_me (s : StD) (d : DeedD) : (stakeP s d).1.members = s.members ∧ (stakeP s d).1.exit = s.exit := by
 unfold stakeP
 repeat' split
 all_goals exact ⟨rfl, rfl⟩
theorem markSP_me (s : StD) (d : DeedD) : (markSP s d).1.members = s.members ∧ (markSP s d).1.exit = s.exit := by
 unfold markSP
 repeat' split
 all_goals exact ⟨rfl, rfl⟩
theorem motP_me (s : StD) (d : DeedD) : (motP s d).1.members = s.members ∧ (motP s d).1.exit = s.exit := by
 unfold motP
 repeat' split
 all_goals exact ⟨rfl, rfl⟩
theorem voteSP_me (s : StD) (d : DeedD) : (voteSP s d).1.members = s.members ∧ (voteSP s d).1.exit = s.exit := by
 unfold voteSP
 repeat' split
 all_goals exact ⟨rfl, rfl⟩
theorem leaveP_len (s : StD) (d : DeedD) : (leaveP s d).1.members.length = s.members.length := by
 unfold leaveP
 split
 ·exact List.length_set
 ·rfl
theorem oent_permL {e sz : Nat} {o : Option (Nat × Nat)} {xs : List Value} {X Y : Own} (hp : X.Perm Y) : (oent e sz o xs X).Perm (oent e sz o xs Y) := by
 cases o with
 | none => exact hp
 | some p => exact hp.cons _
theorem full_perm (x y : Blk) (e1 s1 e2 s2 : Nat) (o1 o2 : Option (Nat × Nat)) (x1 x2 : List Value) (L : Own) : (x :: y :: oent e1 s1 o1 x1 (oent e2 s2 o2 x2 L)).Perm (y :: oent e1 s1 o1 x1 (oent e2 s2 o2 x2 (x :: L))) :=
 (List.Perm.swap _ _ _).trans (List.Perm.cons _ ((oent_front e1 s1 o1 x1 [x] _).trans (oent_permL (oent_front e2 s2 o2 x2 [x] L))))
theorem memP_in {s : StD} {d : DeedD} (hk : d.kind = 3 ∨ d.kind = 4 ∨ d.kind = 7) (h0 : memP s d = 0) : 0 ≤ d.mem ∧ d.mem.toNat < s.members.length := by
 unfold memP at h0
 rw [if_pos hk] at h0
 split at h0
 ·exact absurd h0 (by decide)
 ·omega
theorem hdo_any {bh : Nat} {ox om : Option (Nat × Nat)} {s : StD} {v : SV} {d : DeedD} {bv : Value} (hh : Hd h v s) (few : OwnFew s) (hd : IsDeed h bv d) (hm : v.m = ovs om s.members.length) (okm : okO om s.members.length) (hx : v.x = ovs ox s.exit.length) (okx : okO ox s.exit.length)
  (hml : s.members.length ≤ 128) (h16 : ∀ m ∈ s.motions, m.yes.length = 16 ∧ m.no.length = 16) (ht : s.treas + s.par.bond ≤ 18446744073709551615) (hkd : 1 ≤ d.kind ∧ d.kind ≤ 7)
  (hk : ∀ h' v' ox', PH.le h h' → Hd h' v' (doP s d).1 → v'.m = ovs om (doP s d).1.members.length → v'.x = ovs ox' (doP s d).1.exit.length → okO ox' (doP s d).1.exit.length → (doP s d).1.members.length = s.members.length → K (.int .i64 (doP s d).2) (fullO bh ox' om (doP s d).1 v' L) h') :
  Spec Tryz.prog 45 [.pointer (some ⟨bh, 0, none⟩), deedV d bv] (fullO bh ox om s v L) h K := by
 have hd0 := hd
 obtain ⟨x1, y1, rfl, _⟩ := hd.i.open
 have endK : ∀ (t : StD × Int) h' v', doP s d = t → PH.le h h' → Hd h' v' t.1 → v'.m = v.m → v'.x = v.x → t.1.members = s.members ∧ t.1.exit = s.exit → K (.int .i64 t.2) (hB bh t.1 v' :: oent 3 1 ox (s.exit.map (.int .i64)) (oent 89 6 om (s.members.flatMap memC) L)) h' := fun t h' v' e le a1 a2 a3 a4 => by
  rw [e] at hk
  have := hk h' v' ox le a1 (by rw [a2, hm, a4.1]) (by rw [a3, hx, a4.2]) (by rw [a4.2]; exact okx) (by rw [a4.1])
  rwa [fullO, a4.1, a4.2] at this
 refine x_enterA Tryz.func45 rfl (rs := [_]) rfl rfl mixed (by kernel_rfl) rfl rfl fun ap nd => ?_
 have hbh : h bh = noC := ap.1
 clear ap nd
 simp -dsimp -implicitDefEqProofs (disch := first|with_reducible assumption|omega) [go_sem]
 refine xnew fun b3 n_b3 h_b3 => ?_
 try simp only [Apart] at n_b3
 have ne3 : bh ≠ b3 := n_b3.1
 simp -dsimp -implicitDefEqProofs (disch := first|with_reducible assumption|omega) [go_sem]
 refine Spec.fin (Spec.weaken (Drop.perm h (List.Perm.swap _ _ _)) (haccounts_any hh.p hd0 ⟨_, _, Drop.perm h (List.Perm.swap _ _ _), ?_⟩))
 simp -dsimp -implicitDefEqProofs (disch := first|with_reducible assumption|omega) [go_sem]
 by_cases c1 : accP s d = 0
 case neg =>
  have e : doP s d = (s, accP s d) := by rw [doP, if_pos c1]
  simp -dsimp -implicitDefEqProofs (disch := first|with_reducible assumption|omega) [go_sem]
  exact fin_tail (fin_here (endK _ h v e (PH.le_refl _) hh rfl rfl ⟨rfl, rfl⟩))
 rw [c1]
 simp -dsimp -implicitDefEqProofs (disch := first|with_reducible assumption|omega) [go_sem]
 refine Spec.fin (Spec.weaken (Drop.perm h (full_perm _ _ _ _ _ _ _ _ _ _ _)) (hmembers_any hd0 hm okm (by omega) ⟨_, _, Drop.perm h (full_perm _ _ _ _ _ _ _ _ _ _ _).symm, ?_⟩))
 simp -dsimp -implicitDefEqProofs (disch := first|with_reducible assumption|omega) [go_sem]
 by_cases c2 : memP s d = 0
 case neg =>
  have e : doP s d = (s, memP s d) := by rw [doP, if_neg (by simp [c1]), if_pos c2]
  simp -dsimp -implicitDefEqProofs (disch := first|with_reducible assumption|omega) [go_sem]
  exact fin_tail (fin_here (endK _ h v e (PH.le_refl _) hh rfl rfl ⟨rfl, rfl⟩))
 rw [c2]
 simp -dsimp -implicitDefEqProofs (disch := first|with_reducible assumption|omega) [go_sem]
 have edo : doP s d = if d.kind = 1 then sendP s d else if d.kind = 2 ∨ d.kind = 3 then stakeP s d else if d.kind = 4 then leaveP s d else if d.kind = 5 then markSP s d else if d.kind = 6 then motP s d else voteSP s d := by
  rw [doP, if_neg (by simp [c1]), if_neg (by simp [c2])]
 by_cases k1 : d.kind = 1
 ·rw [if_pos k1] at edo
  simp -dsimp -implicitDefEqProofs (disch := first|with_reducible assumption|omega) [go_sem]
  refine Spec.fin (Spec.weaken (Drop.perm h (List.Perm.swap _ _ _)) (hsend_any hh few hd0 fun h2 v2 le2 g1 g2 g3 => ⟨_, _, (Drop.perm h2 (List.Perm.swap _ _ _)).trans (Drop.tail _ _ _), ?_⟩))
  simp -dsimp -implicitDefEqProofs (disch := first|with_reducible assumption|omega) [go_sem]
  exact fin_here (endK _ h2 v2 edo le2 g1 g2 g3 (sendP_me s d))
 rw [if_neg k1] at edo
 simp -dsimp -implicitDefEqProofs (disch := first|with_reducible assumption|omega) [go_sem]
 by_cases k2 : d.kind = 2
 ·rw [if_pos (Or.inl k2)] at edo
  simp -dsimp -implicitDefEqProofs (disch := first|with_reducible assumption|omega) [go_sem]
  refine Spec.fin (Spec.weaken (Drop.perm h (List.Perm.swap _ _ _)) (hstake_any hh few hd0 fun h2 v2 le2 g1 g2 g3 => ⟨_, _, (Drop.perm h2 (List.Perm.swap _ _ _)).trans (Drop.tail _ _ _), ?_⟩))
  simp -dsimp -implicitDefEqProofs (disch := first|with_reducible assumption|omega) [go_sem]
  exact fin_here (endK _ h2 v2 edo le2 g1 g2 g3 (stakeP_me s d))
 simp -dsimp -implicitDefEqProofs (disch := first|with_reducible assumption|omega) [go_sem]
 by_cases k3 : d.kind = 3
 ·rw [if_pos (Or.inr k3)] at edo
  simp -dsimp -implicitDefEqProofs (disch := first|with_reducible assumption|omega) [go_sem]
  refine Spec.fin (Spec.weaken (Drop.perm h (List.Perm.swap _ _ _)) (hstake_any hh few hd0 fun h2 v2 le2 g1 g2 g3 => ⟨_, _, (Drop.perm h2 (List.Perm.swap _ _ _)).trans (Drop.tail _ _ _), ?_⟩))
  simp -dsimp -implicitDefEqProofs (disch := first|with_reducible assumption|omega) [go_sem]
  exact fin_here (endK _ h2 v2 edo le2 g1 g2 g3 (stakeP_me s d))
 rw [if_neg (by omega)] at edo
 simp -dsimp -implicitDefEqProofs (disch := first|with_reducible assumption|omega) [go_sem]
 have some_of : d.kind = 4 ∨ d.kind = 7 → ∃ bm cm, om = some (bm, cm) := fun q => by
  have hin := memP_in (Or.inr q) c2
  cases om with
  | none => have : s.members.length = 0 := okm; omega
  | some p => exact ⟨_, _, rfl⟩
 by_cases k4 : d.kind = 4
 ·rw [if_pos k4] at edo
  obtain ⟨bm, cm, rfl⟩ := some_of (Or.inl k4)
  have hin := memP_in (Or.inr (Or.inl k4)) c2
  simp -dsimp -implicitDefEqProofs (disch := first|with_reducible assumption|omega) [go_sem]
  refine Spec.fin (Spec.weaken (Drop.perm h (full_perm _ _ _ _ _ _ _ _ _ _ _)) (hleave_any (ox := ox) hh few hd0 hm hx okx hin.1 hin.2 hml fun v2 ox2 g1 g2 g3 g4 => ⟨_, _, (Drop.perm h (full_perm _ _ _ _ _ _ _ (some (bm, cm)) _ _ _).symm).trans (Drop.tail _ _ _), ?_⟩))
  simp -dsimp -implicitDefEqProofs (disch := first|with_reducible assumption|omega) [go_sem]
  rw [edo] at hk
  exact fin_here (hk h v2 ox2 (PH.le_refl _) g1 (by rw [g2, hm, leaveP_len]) g3 g4 (leaveP_len s d))
 rw [if_neg k4] at edo
 simp -dsimp -implicitDefEqProofs (disch := first|with_reducible assumption|omega) [go_sem]
 by_cases k5 : d.kind = 5
 ·rw [if_pos k5] at edo
  simp -dsimp -implicitDefEqProofs (disch := first|with_reducible assumption|omega) [go_sem]
  refine Spec.fin (Spec.weaken (Drop.perm h (List.Perm.swap _ _ _)) (hmark_any hh few hd0 fun h2 v2 le2 g1 g2 g3 => ⟨_, _, (Drop.perm h2 (List.Perm.swap _ _ _)).trans (Drop.tail _ _ _), ?_⟩))
  simp -dsimp -implicitDefEqProofs (disch := first|with_reducible assumption|omega) [go_sem]
  exact fin_here (endK _ h2 v2 edo le2 g1 g2 g3 (markSP_me s d))
 rw [if_neg k5] at edo
 simp -dsimp -implicitDefEqProofs (disch := first|with_reducible assumption|omega) [go_sem]
 by_cases k6 : d.kind = 6
 ·rw [if_pos k6] at edo
  simp -dsimp -implicitDefEqProofs (disch := first|with_reducible assumption|omega) [go_sem]
  refine Spec.fin (Spec.weaken (Drop.perm h (List.Perm.swap _ _ _)) (hmove_any hh few hd0 ht fun h2 v2 le2 g1 g2 g3 => ⟨_, _, (Drop.perm h2 (List.Perm.swap _ _ _)).trans (Drop.tail _ _ _), ?_⟩))
  simp -dsimp -implicitDefEqProofs (disch := first|with_reducible assumption|omega) [go_sem]
  exact fin_here (endK _ h2 v2 edo le2 g1 g2 g3 (motP_me s d))
 rw [if_neg k6] at edo
 simp -dsimp -implicitDefEqProofs (disch := first|with_reducible assumption|omega) [go_sem]
 have k7 : d.kind = 7 := by omega
 obtain ⟨bm, cm, rfl⟩ := some_of (Or.inr k7)
 have hin := memP_in (Or.inr (Or.inr k7)) c2
 refine Spec.fin (Spec.weaken (Drop.perm h (full_perm _ _ _ _ _ _ _ _ _ _ _)) (hvote_any (ox := ox) hh few hd0 hm hin.1 hin.2 hml h16 fun h2 v2 le2 g1 g2 g3 => ⟨_, _, (Drop.perm h2 (full_perm _ _ _ _ _ _ _ (some (bm, cm)) _ _ _).symm).trans (Drop.tail _ _ _), ?_⟩))
 simp -dsimp -implicitDefEqProofs (disch := first|with_reducible assumption|omega) [go_sem]
 exact fin_here (endK _ h2 v2 edo le2 g1 g2 g3 (voteSP_me s d))
end Go.X

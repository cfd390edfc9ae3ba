/- Contracts of purse.Pay, grain.Clamp, Next, and of the bench's clamp and settle. Conditions: right parameters; what is paid has room. -/
import Derived.Test.YtfilkbfkhdaakaaGreatUB
import Derived.Test.YtfilkbfkhdaakaaGreatXZ
import Derived.Test.YtfilkbfkhdaakaaGreatTD
set_option linter.unusedVariables false
set_option linter.unusedSimpArgs false
set_option maxRecDepth 20000
namespace Go.X
open Go.RowKit Go.Proofs Go.Bl
variable {L : Own} {h : PH} {K : PK}
theorem there_any {xs : List Int} (v : Value) (hx : Ints h .u64 v xs) (i : Nat) (hi : i < xs.length) (hk : K (.bool true) L h) : Spec Tryz.prog 290 [v, .int .i64 i] L h K := by
  obtain ⟨a, c, rfl, _, hl, _⟩ := hx.open
  refine x_enter Tryz.func290 rfl (rs := [_]) rfl rfl mixed (by kernel_rfl) rfl rfl ?_
  simp -dsimp -implicitDefEqProofs (disch := first | with_reducible assumption | omega) [go_sem]
  exact fin_here hk
theorem has_any {xs : List Int} (v : Value) (hx : Ints h .u64 v xs) (i : Nat) (hi : i < xs.length) (hk : K (.tuple #[.int .u64 (at0 xs i), .int .i64 0]) L h) : Spec Tryz.prog 264 [v, .int .i64 i] L h K := by
  have hx0 := hx
  obtain ⟨a, c, rfl, _, hl, _, hcs⟩ := hx.open
  refine x_enter Tryz.func264 rfl (rs := [_, _]) rfl rfl mixed (by kernel_rfl) rfl rfl ?_
  simp -dsimp -implicitDefEqProofs (disch := first | with_reducible assumption | omega) [go_sem]
  refine there_any _ hx0 i hi ?_
  simp -dsimp -implicitDefEqProofs (disch := first | with_reducible assumption | omega) [go_sem, idx hcs]
  exact fin_here hk
theorem pwith_any {xs : List Int} (v : Value) (hx : Ints h .u64 v xs) (hl : xs.length ≤ 1000) (i : Nat) (hi : i < xs.length) (n : Int) (hn : 0 ≤ n ∧ n ≤ 18446744073709551615) (hk : ∀ h' r, PH.le h h' → Ints h' .u64 r (xs.set i n) → K r L h') : Spec Tryz.prog 265 [v, .int .i64 i, .int .u64 n] L h K := by
  have hx0 := hx
  have hxw := hx.word
  obtain ⟨a, c, rfl, _, hl2, _, hcs⟩ := hx.open
  refine x_enter Tryz.func265 rfl (rs := [_]) rfl rfl mixed (by kernel_rfl) rfl rfl ?_
  simp -dsimp -implicitDefEqProofs (disch := first | with_reducible assumption | omega) [go_sem]
  refine xMS_full (e := 22) (z := .int .u64 0) (by kernel_rfl) tI_22 rfl rfl .i64 .i64 _ (by omega) (by simp; omega) (by omega) ?_
  simp only [Int.toNat_natCast]
  refine xnew fun b1 n_b1 h_b1 => ?_
  try simp only [Apart] at n_b1
  simp -dsimp -implicitDefEqProofs (disch := first | with_reducible assumption | omega) [go_sem]
  refine xcopy (e := 22) (sz := 1) (by kernel_rfl) tI_22 rfl (Src.known hx0.1) (by simp) (Nat.le_refl _) ?_
  have hw : wr (List.replicate xs.length (Value.int .u64 0)) 0 (xs.map (Value.int .u64)) = xs.map (Value.int .u64) := by
    rw [wr_eq _ _ _ (by simp)]
    simp
  simp -dsimp -implicitDefEqProofs (disch := first | with_reducible assumption | omega) [go_sem, hw, xNth_ints]
  refine ⟨by omega, ?_⟩
  rw [← List.map_set]
  have := fin_pub (K := K) (L := L) (v := .slice (some ⟨b1, 0, none⟩) xs.length xs.length) (e := 22) (sz := 1) (o := some (b1, xs.length)) (n := xs.length) (xs := (xs.set i n).map (.int .u64)) (h := h) (L0 := L) ⟨Nat.le_refl _, by simp [maxLen]; omega⟩ (by simp) (by omega) ⟨n_b1, h_b1⟩ fun h' le sl => fin_here (hk h' _ le ⟨by rw [List.length_set]; exact sl, fun z hz => by
    rw [show IntKind.u64.min = 0 by decide, show IntKind.u64.max = 18446744073709551615 by decide]
    rcases List.mem_or_eq_of_mem_set hz with hz | rfl
    · have := hx0.2 z hz
      rwa [show IntKind.u64.min = 0 by decide, show IntKind.u64.max = 18446744073709551615 by decide] at this
    · exact hn⟩)
  simpa only [oent, Nat.mul_one] using this
theorem pay_any {xs : List Int} (v : Value) (hx : Ints h .u64 v xs) (hl : xs.length ≤ 1000) (i : Nat) (hi : i < xs.length) (n : Int) (hn : 0 ≤ n) (hs : at0 xs i + n ≤ 4611686018427387904) (hk : ∀ h' r, PH.le h h' → Ints h' .u64 r (xs.set i (at0 xs i + n)) → K (.tuple #[r, .int .i64 0]) L h') : Spec Tryz.prog 204 [v, .int .i64 i, .int .u64 n] L h K := by
  have hx0 := hx
  have hw := hx.word i
  obtain ⟨a, c, rfl, _, hl2, _⟩ := hx.open
  refine x_enter Tryz.func204 rfl (rs := [_, _]) rfl rfl mixed (by kernel_rfl) rfl rfl ?_
  simp -dsimp -implicitDefEqProofs (disch := first | with_reducible assumption | omega) [go_sem]
  refine has_any _ hx0 i hi ?_
  simp -dsimp -implicitDefEqProofs (disch := first | with_reducible assumption | omega) [go_sem]
  refine madd_any (at0 xs i) n hw (by omega) ?_
  rw [sumV_ok (by omega)]
  simp -dsimp -implicitDefEqProofs (disch := first | with_reducible assumption | omega) [go_sem]
  refine pwith_any _ hx0 hl i hi _ (by omega) fun h1 r le i1 => ?_
  obtain ⟨ra, rc, rfl, _⟩ := i1.open
  have h2 := hk h1 _ le i1
  rw [List.length_set] at h2
  simp -dsimp -implicitDefEqProofs (disch := first | with_reducible assumption | omega) [go_sem]
  exact fin_here h2
theorem gclamp_any (p : ParD) (ok : ParOk p) (hr : parR p = true) (b : Int) (hb : 0 ≤ b ∧ b ≤ 18446744073709551615) (hk : K (.tuple #[.int .u64 (min b p.cap), .int .u64 (b - min b p.cap)]) L h) : Spec Tryz.prog 202 [parV p, .int .u64 b] L h K := by
  have hc := ok.w p.cap (by simp [wides])
  refine x_enter Tryz.func202 rfl (rs := [_, _]) rfl rfl mixed (by kernel_rfl) rfl rfl ?_
  simp -dsimp -implicitDefEqProofs (disch := first | with_reducible assumption | omega) [go_sem]
  refine xnew fun b1 n_b1 h_b1 => ?_
  try simp only [Apart] at n_b1
  simp -dsimp -implicitDefEqProofs (disch := first | with_reducible assumption | omega) [go_sem]
  refine scaled_any p ok ?_
  rw [hr]
  simp -dsimp -implicitDefEqProofs (disch := first | with_reducible assumption | omega) [go_sem]
  refine xnew fun b2 n_b2 h_b2 => ?_
  try simp only [Apart] at n_b2
  simp -dsimp -implicitDefEqProofs (disch := first | with_reducible assumption | omega) [go_sem]
  have take : ∀ {K' : PK} {L' : Own}, K' (.tuple #[.int .u64 (min b p.cap), .int .u64 (b - min b p.cap)]) L' h → Spec Tryz.prog 262 [.int .u64 b, .int .u64 p.cap] L' h K' := fun {K' L'} hK => by
    refine x_enter Tryz.func262 rfl (rs := [_, _]) rfl rfl mixed (by kernel_rfl) rfl rfl ?_
    simp -dsimp -implicitDefEqProofs (disch := first | with_reducible assumption | omega) [go_sem]
    exact fin_here hK
  refine take ?_
  simp -dsimp -implicitDefEqProofs (disch := first | with_reducible assumption | omega) [go_sem]
  exact fin_tail (fin_tail (fin_here hk))
theorem gnext_any (p : ParD) (ok : ParOk p) (hr : parR p = true) (e b : Int) (he : 0 ≤ e ∧ e ≤ 18446744073709551615) (hb : 0 ≤ b ∧ b ≤ 18446744073709551615) (hk : K (.int .u64 (nextP p e b)) L h) : Spec Tryz.prog 209 [parV p, .int .u64 e, .int .u64 b] L h K := by
  refine x_enter Tryz.func209 rfl (rs := [_]) rfl rfl mixed (by kernel_rfl) rfl rfl ?_
  simp -dsimp -implicitDefEqProofs (disch := first | with_reducible assumption | omega) [go_sem]
  refine xnew fun b1 n_b1 h_b1 => ?_
  try simp only [Apart] at n_b1
  simp -dsimp -implicitDefEqProofs (disch := first | with_reducible assumption | omega) [go_sem]
  refine scaled_any p ok ?_
  rw [hr]
  simp -dsimp -implicitDefEqProofs (disch := first | with_reducible assumption | omega) [go_sem]
  refine xnew fun b2 n_b2 h_b2 => ?_
  try simp only [Apart] at n_b2
  simp -dsimp -implicitDefEqProofs (disch := first | with_reducible assumption | omega) [go_sem]
  refine next_any p ok (inc_pos hr) e b he hb ?_
  simp -dsimp -implicitDefEqProofs (disch := first | with_reducible assumption | omega) [go_sem]
  exact fin_tail (fin_tail (fin_here hk))
/-! ### the bench -/
theorem fset {l : List MemD} {k : Nat} (hk : k < l.length) {i : Nat} (hi : i < 6) {u : Value} {a a' : MemD} (ha : memC a' = (memC a).set i u) : ((l.set k a).flatMap memC).set (k * 6 + i) u = (l.set k a').flatMap memC := by
  rw [flatG_set memC_len zeroM (l.set k a) (by rw [List.length_set]; exact hk) hi (a' := a') (by rw [gr_lt (by rw [List.length_set]; exact hk), List.getElem_set_self]; exact ha), List.set_set]
theorem fset4 {l : List MemD} {k : Nat} (hk : k < l.length) (a b : MemD) (ho : b.owner = a.owner) (hs : b.status = a.status) :
    (((((l.set k a).flatMap memC).set (k * 6) (.int .u64 b.bal)).set (k * 6 + 1) (.int .u64 b.eff)).set (k * 6 + 2) (.int .u64 b.score)).set (k * 6 + 3) (.int .i64 b.streak) = (l.set k b).flatMap memC := by
  have h0 : ((l.set k a).flatMap memC).set (k * 6) (.int .u64 b.bal) = (l.set k { a with bal := b.bal }).flatMap memC := fset hk (i := 0) (by decide) rfl
  have h1 : ((l.set k { a with bal := b.bal }).flatMap memC).set (k * 6 + 1) (.int .u64 b.eff) = (l.set k { a with bal := b.bal, eff := b.eff }).flatMap memC := fset hk (by decide) rfl
  have h2 : ((l.set k { a with bal := b.bal, eff := b.eff }).flatMap memC).set (k * 6 + 2) (.int .u64 b.score) = (l.set k { a with bal := b.bal, eff := b.eff, score := b.score }).flatMap memC := fset hk (by decide) rfl
  have h3 : ((l.set k { a with bal := b.bal, eff := b.eff, score := b.score }).flatMap memC).set (k * 6 + 3) (.int .i64 b.streak) = (l.set k { a with bal := b.bal, eff := b.eff, score := b.score, streak := b.streak }).flatMap memC := fset hk (by decide) rfl
  rw [h0, h1, h2, h3]
  have : ({ a with bal := b.bal, eff := b.eff, score := b.score, streak := b.streak } : MemD) = b := by
    cases a; cases b; simp only at ho hs; subst ho; subst hs; rfl
  rw [this]
def clampM (q : ParD) (m : MemD) : MemD := trimM q { m with bal := min m.bal q.cap }
def settleM (q : ParD) (m : MemD) : MemD := { m with eff := if gfitsP q (nextP q m.eff m.bal) m.bal then nextP q m.eff m.bal else wholeP q m.bal }
abbrev setP (u : SV) (p : Value) : SV := ⟨p, u.m, u.e, u.x, u.o, u.d, u.t, u.k, u.r⟩
abbrev setPar (s : StD) (q : ParD) : StD := { s with par := q }
set_option maxHeartbeats 12800000 in
theorem clampB_any {s : StD} (u : SV) (hr : parR s.par = true) (ok : ParOk s.par) (ms : List MemD) (hm : ∀ x ∈ ms, MemOk x) (ps : List Int) (bb bm cap : Nat) (w out : Value) (hbb : bb ≠ bm) (nb : h bb = noC) (nm : h bm = noC) (hcap : ms.length ≤ cap) (hml : ms.length ≤ 1000)
    (hp : Ints h .u64 u.p ps) (hl : ps.length ≤ 1000) (k : Nat) (hk1 : k < ms.length) (j : Nat) (ho : (gr zeroM ms k).owner = j) (hj : j < ps.length)
    (hs : at0 ps j + ((gr zeroM ms k).bal - min (gr zeroM ms k).bal s.par.cap) ≤ 4611686018427387904)
    (hk : ∀ h' r, PH.le h h' → Ints h' .u64 r (ps.set j (at0 ps j + ((gr zeroM ms k).bal - min (gr zeroM ms k).bal s.par.cap))) → K (.tuple #[]) (⟨bb, 192, stC s (setP (setM u (.slice (some ⟨bm, 0, none⟩) ms.length cap)) r) ++ [w, out], 43⟩ :: ⟨bm, 94, (ms.set k (clampM s.par (gr zeroM ms k))).flatMap memC, cap * 6⟩ :: L) h') :
    Spec Tryz.prog 111 [.pointer (some ⟨bb, 0, none⟩), .int .i64 k] (⟨bb, 192, stC s (setM u (.slice (some ⟨bm, 0, none⟩) ms.length cap)) ++ [w, out], 43⟩ :: ⟨bm, 94, ms.flatMap memC, cap * 6⟩ :: L) h K := by
  obtain ⟨m, hmk⟩ : ∃ m, m = gr zeroM ms k := ⟨_, rfl⟩
  have hmo : MemOk m := hm m (by rw [hmk, gr_lt hk1]; exact List.getElem_mem hk1)
  have ub := hmo.u m.bal (by simp)
  have hc := ok.w s.par.cap (by simp [wides])
  rw [← hmk] at ho hs hk
  have hp0 := hp
  obtain ⟨vp, vm, ve, vx, vo, vd, vt, vk, vr⟩ := u
  simp only at hp hp0 hk ⊢
  obtain ⟨pa, pc, rfl, _⟩ := hp.open
  simp only [List.cons_append, List.nil_append] at hk ⊢
  have g0 : ∀ (K : Value → Prop) (t : Tok K), xNth (ms.flatMap memC) (k * 6) K t = K (.int .u64 m.bal) := fun K t => xNth_rec memC_len zeroM ms (m := 0) hk1 (by decide) (by rw [← hmk]; rfl) K t
  have hfl : (ms.flatMap memC).length = ms.length * 6 := flatG_len memC_len ms
  have hk6 := flat_lt (w := 6) hk1 (show 5 < 6 by decide)
  refine x_enter Tryz.func111 rfl (rs := []) rfl rfl mixed (by kernel_rfl) rfl rfl ?_
  simp -dsimp -implicitDefEqProofs (disch := first | with_reducible assumption | omega) [go_sem]
  refine xdraw (by kernel_rfl) rfl ?_
  simp -dsimp -implicitDefEqProofs (disch := first | with_reducible assumption | omega) [go_sem, g0]
  refine xdcall _ (gclamp_any s.par ok hr m.bal ub ⟨rfl, rfl, rfl⟩) ?_
  simp -dsimp -implicitDefEqProofs (disch := first | with_reducible assumption | omega) [go_sem, g0]
  have hsum : (ms.map fun a => (memC a).length).sum = ms.length * 6 := by rw [← List.length_flatMap, hfl]
  obtain ⟨x, hx⟩ : ∃ x, x = min m.bal s.par.cap := ⟨_, rfl⟩
  have hx0 : 0 ≤ x ∧ x ≤ m.bal := by omega
  obtain ⟨m1, hm1⟩ : ∃ m1 : MemD, m1 = { m with bal := x } := ⟨_, rfl⟩
  have hset0 : (ms.flatMap memC).set (k * 6) (.int .u64 x) = (ms.set k m1).flatMap memC := flatG_set memC_len zeroM ms (m := 0) hk1 (by decide) (by rw [← hmk, hm1]; rfl)
  rw [← hx] at hs hk ⊢
  rw [hset0]
  refine ⟨by omega, ?_⟩
  have hk1' : k < (ms.set k m1).length := by rw [List.length_set]; exact hk1
  have hg1 : gr zeroM (ms.set k m1) k = m1 := by rw [gr_lt hk1', List.getElem_set_self]
  have e1 : m1.bal = x := by rw [hm1]
  have e2 : m1.eff = m.eff := by rw [hm1]
  have e3 : m1.score = m.score := by rw [hm1]
  have e4 : m1.streak = m.streak := by rw [hm1]
  have e5 : m1.owner = m.owner := by rw [hm1]
  have r0 : ∀ (K : Value → Prop) (t : Tok K), xNth ((ms.set k m1).flatMap memC) (k * 6) K t = K (.int .u64 m1.bal) := fun K t => xNth_rec memC_len zeroM _ (m := 0) hk1' (by decide) (by rw [hg1]; rfl) K t
  have r1 : ∀ (K : Value → Prop) (t : Tok K), xNth ((ms.set k m1).flatMap memC) (k * 6 + 1) K t = K (.int .u64 m1.eff) := fun K t => xNth_rec memC_len zeroM _ (m := 1) hk1' (by decide) (by rw [hg1]; rfl) K t
  have r2 : ∀ (K : Value → Prop) (t : Tok K), xNth ((ms.set k m1).flatMap memC) (k * 6 + 2) K t = K (.int .u64 m1.score) := fun K t => xNth_rec memC_len zeroM _ (m := 2) hk1' (by decide) (by rw [hg1]; rfl) K t
  have r3 : ∀ (K : Value → Prop) (t : Tok K), xNth ((ms.set k m1).flatMap memC) (k * 6 + 3) K t = K (.int .i64 m1.streak) := fun K t => xNth_rec memC_len zeroM _ (m := 3) hk1' (by decide) (by rw [hg1]; rfl) K t
  refine xanyl (.tk 0 (.tk 1 (.tk 2 (.tk 3 (.tk 4 (.tk 6 (.tk 7 (.tk 8 (.tkl 5 (.tkl 9 (.or true 10 (.tk 11 (.tk 12 (.or false 13 (.fin) (.nil)))) (.nil)))))))))))) (by kernel_rfl) (by kernel_rfl) _ (Drop.refl _ _) ?_
  simp -dsimp -implicitDefEqProofs (disch := first | with_reducible assumption | omega) [go_sem, r0, r1, r2, r3]
  refine strim_any s.par ok m1 ?_
  rw [hr, if_pos rfl]
  obtain ⟨m2, hm2⟩ : ∃ m2, m2 = trimM s.par m1 := ⟨_, rfl⟩
  rw [← hm2]
  first
  | refine xkp (Drop.refl _ _) ?_
  | skip
  simp -dsimp -implicitDefEqProofs (disch := first | with_reducible assumption | omega) [go_sem]
  have o2 : m2.owner = m1.owner := by rw [hm2]; rfl
  have s2 : m2.status = m1.status := by rw [hm2]; rfl
  rw [fset4 hk1 m1 m2 o2 s2]
  have hcl : m2 = clampM s.par m := by rw [hm2, hm1, hx]; rfl
  have hsum2 : (((ms.map fun a => (memC a).length)).set k (memC m1).length).sum = ms.length * 6 := by
    have : ((ms.set k m1).map fun a => (memC a).length).sum = (ms.set k m1).length * 6 := by rw [← List.length_flatMap, flatG_len memC_len]
    rwa [List.map_set, List.length_set] at this
  refine ⟨by omega, ?_⟩
  have hk2' : k < (ms.set k m2).length := by rw [List.length_set]; exact hk1
  have hg2 : gr zeroM (ms.set k m2) k = m2 := by rw [gr_lt hk2', List.getElem_set_self]
  have ho2 : m2.owner = j := by rw [o2, e5, ho]
  have q4 : ∀ (K : Value → Prop) (t : Tok K), xNth ((ms.set k m2).flatMap memC) (k * 6 + 4) K t = K (.int .i64 j) := fun K t => xNth_rec memC_len zeroM _ (m := 4) hk2' (by decide) (by rw [hg2, ← ho2]; rfl) K t
  rw [← hcl] at hk
  refine xanyl (.tk 0 (.tk 1 (.tk 2 (.tk 3 (.tk 5 (.tk 6 (.tk 7 (.tk 9 (.tkl 4 (.tkl 8 (.or true 10 (.tk 11 (.tk 12 (.tk 13 (.tk 14 (.tk 15 (.fin)))))) (.nil)))))))))))) (by kernel_rfl) (by kernel_rfl) _ (Drop.refl _ _) ?_
  simp -dsimp -implicitDefEqProofs (disch := first | with_reducible assumption | omega) [go_sem, q4]
  refine Spec.ap (pay_any _ hp0 hl j hj (m.bal - x) (by omega) hs fun h1 r le1 i1 ap => ?_)
  simp only [Ap] at ap
  obtain ⟨nb1, nm1, _⟩ := ap
  have i10 := i1
  obtain ⟨ra, rc, rfl, _⟩ := i1.open
  first
  | refine xkp (Drop.forget le1) ?_
  | skip
  simp -dsimp -implicitDefEqProofs (disch := first | with_reducible assumption | omega) [go_sem]
  rw [List.length_set] at i10
  exact fin_here (hk h1 _ le1 i10)
set_option maxHeartbeats 12800000 in
theorem settleB_any {s : StD} (u : SV) (hr : parR s.par = true) (ok : ParOk s.par) (ms : List MemD) (hm : ∀ x ∈ ms, MemOk x) (bb bm cap : Nat) (w out : Value) (hbb : bb ≠ bm) (nb : h bb = noC) (nm : h bm = noC) (hcap : ms.length ≤ cap) (hml : ms.length ≤ 1000)
    (k : Nat) (hk1 : k < ms.length)
    (hk : K (.tuple #[]) (⟨bb, 192, stC s (setM u (.slice (some ⟨bm, 0, none⟩) ms.length cap)) ++ [w, out], 43⟩ :: ⟨bm, 94, (ms.set k (settleM s.par (gr zeroM ms k))).flatMap memC, cap * 6⟩ :: L) h) :
    Spec Tryz.prog 113 [.pointer (some ⟨bb, 0, none⟩), .int .i64 k] (⟨bb, 192, stC s (setM u (.slice (some ⟨bm, 0, none⟩) ms.length cap)) ++ [w, out], 43⟩ :: ⟨bm, 94, ms.flatMap memC, cap * 6⟩ :: L) h K := by
  obtain ⟨m, hmk⟩ : ∃ m, m = gr zeroM ms k := ⟨_, rfl⟩
  have hmo : MemOk m := hm m (by rw [hmk, gr_lt hk1]; exact List.getElem_mem hk1)
  have ub := hmo.u m.bal (by simp)
  have ue := hmo.u m.eff (by simp)
  rw [← hmk] at hk
  obtain ⟨vp, vm, ve, vx, vo, vd, vt, vk, vr⟩ := u
  simp only [List.cons_append, List.nil_append] at hk ⊢
  have g0 : ∀ (K : Value → Prop) (t : Tok K), xNth (ms.flatMap memC) (k * 6) K t = K (.int .u64 m.bal) := fun K t => xNth_rec memC_len zeroM ms (m := 0) hk1 (by decide) (by rw [← hmk]; rfl) K t
  have g1 : ∀ (K : Value → Prop) (t : Tok K), xNth (ms.flatMap memC) (k * 6 + 1) K t = K (.int .u64 m.eff) := fun K t => xNth_rec memC_len zeroM ms (m := 1) hk1 (by decide) (by rw [← hmk]; rfl) K t
  have hfl : (ms.flatMap memC).length = ms.length * 6 := flatG_len memC_len ms
  have hk6 := flat_lt (w := 6) hk1 (show 5 < 6 by decide)
  have hsum : (ms.map fun a => (memC a).length).sum = ms.length * 6 := by rw [← List.length_flatMap, hfl]
  refine x_enter Tryz.func113 rfl (rs := []) rfl rfl mixed (by kernel_rfl) rfl rfl ?_
  simp -dsimp -implicitDefEqProofs (disch := first | with_reducible assumption | omega) [go_sem]
  refine xanyl (.tk 0 (.tk 1 (.tk 2 (.tk 3 (.tk 4 (.tk 6 (.tk 7 (.tk 8 (.tk 9 (.tk 11 (.tk 12 (.tk 13 (.tk 14 (.tkl 5 (.tkl 10 (.tkl 15 (.or true 16 (.tk 17 (.tk 18 (.tk 19 (.or false 20 (.fin) (.nil))))) (.nil)))))))))))))))))) (by kernel_rfl) (by kernel_rfl) _ (Drop.refl _ _) ?_
  simp -dsimp -implicitDefEqProofs (disch := first | with_reducible assumption | omega) [go_sem, g0, g1]
  refine gnext_any s.par ok hr m.eff m.bal ue ub ?_
  first
  | refine xkp (Drop.refl _ _) ?_
  | skip
  simp -dsimp -implicitDefEqProofs (disch := first | with_reducible assumption | omega) [go_sem]
  obtain ⟨n1, hn1⟩ : ∃ n1, n1 = nextP s.par m.eff m.bal := ⟨_, rfl⟩
  have hw := wholeP_ok (inc_pos hr) ok ub
  have un : 0 ≤ n1 ∧ n1 ≤ 18446744073709551615 := by
    rw [hn1]; unfold nextP; split
    · exact hw
    · exact ue
  obtain ⟨m1, hm1⟩ : ∃ m1 : MemD, m1 = { m with eff := n1 } := ⟨_, rfl⟩
  have hset1 : (ms.flatMap memC).set (k * 6 + 1) (.int .u64 n1) = (ms.set k m1).flatMap memC := flatG_set memC_len zeroM ms hk1 (by decide) (by rw [← hmk, hm1]; rfl)
  rw [← hn1, hset1]
  refine ⟨by omega, ?_⟩
  have hk1' : k < (ms.set k m1).length := by rw [List.length_set]; exact hk1
  have hg1 : gr zeroM (ms.set k m1) k = m1 := by rw [gr_lt hk1', List.getElem_set_self]
  have e1 : m1.bal = m.bal := by rw [hm1]
  have r0 : ∀ (K : Value → Prop) (t : Tok K), xNth ((ms.set k m1).flatMap memC) (k * 6) K t = K (.int .u64 m.bal) := fun K t => xNth_rec memC_len zeroM _ (m := 0) hk1' (by decide) (by rw [hg1, ← e1]; rfl) K t
  have r1 : ∀ (K : Value → Prop) (t : Tok K), xNth ((ms.set k m1).flatMap memC) (k * 6 + 1) K t = K (.int .u64 n1) := fun K t => xNth_rec memC_len zeroM _ (m := 1) hk1' (by decide) (by rw [hg1, hm1]; rfl) K t
  refine xdraw (by kernel_rfl) rfl ?_
  simp -dsimp -implicitDefEqProofs (disch := first | with_reducible assumption | omega) [go_sem, r0, r1]
  refine xdcall _ (gfits_any s.par ok n1 m.bal un ub ⟨rfl, rfl, rfl⟩) ?_
  rw [hr, Bool.true_and]
  cases hgf : gfitsP s.par n1 m.bal with
  | true =>
    have es : settleM s.par m = m1 := by rw [settleM, ← hn1, hgf, if_pos rfl, hm1]
    rw [es] at hk
    simp -dsimp -implicitDefEqProofs (disch := first | with_reducible assumption | omega) [go_sem, r0, r1]
    exact fin_here hk
  | false =>
    have es : settleM s.par m = { m with eff := wholeP s.par m.bal } := by rw [settleM, ← hn1, hgf]; rfl
    rw [es] at hk
    simp -dsimp -implicitDefEqProofs (disch := first | with_reducible assumption | omega) [go_sem, r0, r1]
    refine xanyl (.tk 0 (.tk 1 (.tk 2 (.tk 3 (.tk 4 (.tk 6 (.tk 7 (.tk 8 (.tk 9 (.tkl 5 (.tkl 10 (.or true 11 (.tk 12 (.tk 13 (.tk 14 (.or false 15 (.fin) (.nil))))) (.nil))))))))))))) (by kernel_rfl) (by kernel_rfl) _ (Drop.refl _ _) ?_
    simp -dsimp -implicitDefEqProofs (disch := first | with_reducible assumption | omega) [go_sem, r0, r1]
    refine gwhole_any s.par ok m.bal ub ?_
    rw [hr, if_pos rfl]
    first
    | refine xkp (Drop.refl _ _) ?_
    | skip
    simp -dsimp -implicitDefEqProofs (disch := first | with_reducible assumption | omega) [go_sem]
    have hset2 : ((ms.set k m1).flatMap memC).set (k * 6 + 1) (.int .u64 (wholeP s.par m.bal)) = (ms.set k { m with eff := wholeP s.par m.bal }).flatMap memC := fset hk1 (by decide) (by rw [hm1]; rfl)
    have hsum2 : (((ms.map fun a => (memC a).length)).set k (memC m1).length).sum = ms.length * 6 := by
      have : ((ms.set k m1).map fun a => (memC a).length).sum = (ms.set k m1).length * 6 := by rw [← List.length_flatMap, flatG_len memC_len]
      rwa [List.map_set, List.length_set] at this
    rw [hset2]
    exact ⟨by omega, fin_here hk⟩
end Go.X

/- Lemmas and contracts for a statement about the given program. Conditions: as each says. -/
import Derived.Test.YtmkekhodcacfbaaGreatQ34
set_option linter.unusedVariables false
set_option linter.unusedSimpArgs false
set_option maxHeartbeats 12800000
set_option maxRecDepth 20000
namespace Go.X
open Go.RowKit Go.Proofs Go.Bl
variable {L : Own} {h : PH} {K : PK}
def mixL {α : Type} (f g : Nat → α) (C : List Nat) (k : Nat) : List α := (C.take k).map f ++ (C.drop k).map g
section
variable {α : Type} {f g : Nat → α} {C : List Nat} {k : Nat}
theorem mixL_len : (mixL f g C k).length = C.length := by simp [mixL]; omega
theorem mixL_0 : mixL f g C 0 = C.map g := by simp [mixL]
theorem mixL_all : mixL f g C C.length = C.map f := by simp [mixL]
theorem mixL_at (z : α) (hk : k < C.length) : gr z (mixL f g C k) k = g C[k] := by
 rw [gr_lt (by rw [mixL_len]; exact hk)]
 simp only [mixL]
 rw [List.getElem_append_right (by simp; omega)]
 simp only [List.length_map, List.length_take, List.getElem_map, List.getElem_drop]
 congr 2
 omega
theorem mixL_set (hk : k < C.length) : (mixL f g C k).set k (f C[k]) = mixL f g C (k + 1) := by
 have hl : ((C.take k).map f).length = k := by simp; omega
 have hd : C.drop k = C[k] :: C.drop (k + 1) := List.drop_eq_getElem_cons hk
 simp only [mixL]
 rw [List.set_append, if_neg (by omega), hl, Nat.sub_self, hd, List.map_cons, List.set_cons_zero, List.take_succ_eq_append_getElem hk, List.map_append]
 simp
theorem mixL_same (hk : k < C.length) (e : f C[k] = g C[k]) : mixL f g C (k + 1) = mixL f g C k := by
 rw [← mixL_set hk, e]
 apply List.ext_getElem?
 intro j
 rw [List.getElem?_set]
 by_cases c : k = j
 ·subst c
  have := mixL_at (f := f) (g := g) (g C[k]) hk
  rw [gr_lt (by rw [mixL_len]; exact hk)] at this
  rw [if_pos rfl, if_pos (by rw [mixL_len]; exact hk), List.getElem?_eq_getElem (by rw [mixL_len]; exact hk), this]
 ·rw [if_neg c]
end
theorem cP_at (l : List MemD) : ∀ (n k : Nat) (hk : k < (cP l n).length), cP l ((cP l n)[k]) = (cP l n).take k
 | 0, k, hk => by simp [cP] at hk
 | n + 1, k, hk => by
  have hs := cP_succ l n
  by_cases c : cntB (gr zeroM l n) = true
  ·rw [if_pos c] at hs
   by_cases c2 : k < (cP l n).length
   ·have ih := cP_at l n k c2
    have e : (cP l (n + 1))[k] = (cP l n)[k] := by simp only [hs]; exact List.getElem_append_left c2
    rw [e, ih, hs, List.take_append_of_le_length (by omega)]
   ·have hk2 : k = (cP l n).length := by rw [hs] at hk; simp at hk; omega
    have e : (cP l (n + 1))[k] = n := by simp only [hs]; rw [List.getElem_append_right (by omega)]; simp [hk2]
    rw [e, hs, List.take_append_of_le_length (by omega), List.take_of_length_le (by omega)]
  ·rw [if_neg c] at hs
   have e : (cP l (n + 1))[k] = (cP l n)[k]'(by rw [← hs]; exact hk) := by simp only [hs]
   rw [e, cP_at l n k (by rw [← hs]; exact hk), hs]
def slipP (s : StD) (i : Nat) : SlD := if thB s i then { slip0 s i with prize := prizeS s i, over := (payS s i).2 } else slip0 s i
def nowP (s : StD) (i : Nat) : MemD := if thB s i then (payS s i).1 else nowM s i
theorem there_at {s : StD} {k : Nat} (hk : k < (cI s).length) : (thI s.members s.marks (cI s)[k]) = ((cI s).take k).filter (thB s) := by
 unfold thI
 have := cP_at s.members s.members.length k hk
 show (cP s.members ((cP s.members s.members.length)[k])).filter _ = _
 rw [this]
 rfl
theorem cI_lt {s : StD} {k : Nat} (hk : k < (cI s).length) : (cI s)[k] < s.members.length := cP_lt (List.getElem_mem hk)
theorem gr_map {α : Type} (z : α) (f : Nat → α) {C : List Nat} {k : Nat} (hk : k < C.length) : gr z (C.map f) k = f C[k] := by
 rw [gr_lt (by simpa using hk), List.getElem_map]
def tkI (s : StD) (k : Nat) : List Nat := ((cI s).take k).filter (thB s)
theorem tkI_succS {s : StD} {k : Nat} (hk : k < (cI s).length) : tkI s (k + 1) = if thB s (cI s)[k] then tkI s k ++ [(cI s)[k]] else tkI s k := by
 unfold tkI
 rw [List.take_succ_eq_append_getElem hk, List.filter_append]
 by_cases c : thB s (cI s)[k] = true
 ·simp [c]
 ·simp [c]
theorem tkI_len (s : StD) (k : Nat) : (tkI s k).length ≤ (cI s).length := Nat.le_trans (List.length_filter_le _ _) (by simp; omega)
theorem tkI_all (s : StD) : tkI s (cI s).length = thI s.members s.marks s.members.length := by
 unfold tkI; rw [List.take_length]; rfl
theorem tkI_mono (s : StD) {j k : Nat} (hjk : j ≤ k) : (tkI s j).length ≤ (tkI s k).length := by
 unfold tkI
 refine List.Sublist.length_le (List.Sublist.filter _ ?_)
 rw [show (cI s).take j = ((cI s).take k).take j by rw [List.take_take, Nat.min_eq_left hjk]]
 exact List.take_sublist _ _
theorem partsS_eq (s : StD) : partsS s = prizeL s.par (mintS s) ((thI s.members s.marks s.members.length).map (nowM s)) := rfl
theorem partsS_len (s : StD) : (partsS s).length = (thI s.members s.marks s.members.length).length := by
 rw [partsS_eq, prizeL_len, List.length_map]
theorem mintS_b {s : StD} (H : SlH s) : 0 ≤ mintS s ∧ mintS s ≤ 18446744073709551615 := by
 have ha : 0 ≤ actS s := (tot_filter (effI s.members) (fun j => cntB (gr zeroM s.members j)) (List.range s.members.length) fun x _ => (eff_ok H.mo x).1).1
 have := bud_b H.ok (ac := actS s) ⟨ha, by have := H.act; omega⟩
 unfold mintS mintP
 split
 ·decide
 ·exact this
theorem actS_b {s : StD} (H : SlH s) : 0 ≤ actS s ∧ actS s ≤ 140737488355328 :=
 ⟨(tot_filter (effI s.members) (fun j => cntB (gr zeroM s.members j)) (List.range s.members.length) fun x _ => (eff_ok H.mo x).1).1, H.act⟩
theorem prize_at {s : StD} {k : Nat} (hk : k < (cI s).length) : prizeS s (cI s)[k] = at0 (partsS s) (tkI s k).length := by
 unfold prizeS
 rw [there_at hk]
 rfl
theorem at0_drop (xs : List Int) (j i : Nat) : at0 (xs.drop j) i = at0 xs (j + i) := by
 simp only [at0, List.getD_eq_getElem?_getD, List.getElem?_drop]
theorem thM_ok {s : StD} (H : SlH s) : ∀ x ∈ (thI s.members s.marks s.members.length).map (nowM s), MemOk x := fun x hx => by
 obtain ⟨i, hi, rfl⟩ := List.mem_map.1 hx
 exact now_ok H (cP_lt (List.mem_filter.1 hi).1)
theorem prize_b {s : StD} (H : SlH s) (i : Nat) : 0 ≤ prizeS s i ∧ prizeS s i ≤ 18446744073709551615 := by
 have := prizeL_at H.r (mintS_b H).1 (thM_ok H) (thI s.members s.marks i).length
 have h2 := (mintS_b H).2
 unfold prizeS
 rw [partsS_eq]
 omega
theorem flat_congr {α : Type} {f : α → List Value} {l : List α} {k : Nat} {a b : α} (e : f a = f b) : (l.set k a).flatMap f = (l.set k b).flatMap f := by
 rw [List.flatMap_def, List.flatMap_def, List.map_set, List.map_set, e]
theorem sdset4 {l : List MemD} {k : Nat} (hk : k < l.length) (b : MemD) :
  ((((l.flatMap sdC).set (k * 4) (.int .u64 b.bal)).set (k * 4 + 1) (.int .u64 b.eff)).set (k * 4 + 1 + 1) (.int .u64 b.score)).set (k * 4 + 1 + 1 + 1) (.int .i64 b.streak) = (l.set k b).flatMap sdC := by
 obtain ⟨a, ha⟩ : ∃ a, a = gr zeroM l k := ⟨_, rfl⟩
 have st : ∀ (l' : List MemD) (hk' : k < l'.length) (m : Nat) (u : Value) (a a' : MemD), gr zeroM l' k = a → m < 4 → sdC a' = (sdC a).set m u → (l'.flatMap sdC).set (k * 4 + m) u = (l'.set k a').flatMap sdC := fun l' hk' m u a a' e hm h1 => flatG_set sdC_len zeroM l' (m := m) hk' hm (by rw [e]; exact h1)
 have gg : ∀ x, gr zeroM (l.set k x) k = x := fun x => by rw [gr_lt (by simpa using hk), List.getElem_set_self]
 have h0 := st l hk 0 (.int .u64 b.bal) a { a with bal := b.bal } ha.symm (by decide) rfl
 have h1 := st (l.set k { a with bal := b.bal }) (by simpa using hk) 1 (.int .u64 b.eff) _ { a with bal := b.bal, eff := b.eff } (gg _) (by decide) rfl
 have h2 := st (l.set k { a with bal := b.bal, eff := b.eff }) (by simpa using hk) 2 (.int .u64 b.score) _ { a with bal := b.bal, eff := b.eff, score := b.score } (gg _) (by decide) rfl
 have h3 := st (l.set k { a with bal := b.bal, eff := b.eff, score := b.score }) (by simpa using hk) 3 (.int .i64 b.streak) _ { a with bal := b.bal, eff := b.eff, score := b.score, streak := b.streak } (gg _) (by decide) rfl
 rw [Nat.add_zero] at h0
 rw [List.set_set] at h1 h2 h3
 rw [h0, h1]
 show (((l.set k _).flatMap sdC).set (k * 4 + 2) _).set (k * 4 + 3) _ = _
 rw [h2, h3]
 exact flat_congr rfl
abbrev slB (bs cs : Nat) (l : List SlD) : Blk := ⟨bs, 42, l.flatMap slC, cs * 8⟩
abbrev nwB (bn cn : Nat) (l : List MemD) : Blk := ⟨bn, 89, l.flatMap sdC, cn * 4⟩
theorem sprizes_pos {s : StD} (v : SV) (hs0 : IsSt h v s) (H : SlH s) (bh bs cs bn cn : Nat) (hcs : (cI s).length ≤ cs) (hcn : (cI s).length ≤ cn)
  (hk : ∀ h', PH.le h h' → K (.tuple #[]) (shB bh s v (modeS s) (actS s) (.slice (some ⟨bs, 0, none⟩) (cI s).length cs) (.slice (some ⟨bn, 0, none⟩) (cI s).length cn) :: slB bs cs ((cI s).map (slipP s)) :: nwB bn cn ((cI s).map (nowP s)) :: L) h') :
  Spec Tryz.prog 32 [.pointer (some ⟨bh, 0, none⟩)] (shB bh s v (modeS s) (actS s) (.slice (some ⟨bs, 0, none⟩) (cI s).length cs) (.slice (some ⟨bn, 0, none⟩) (cI s).length cn) :: slB bs cs ((cI s).map (slip0 s)) :: nwB bn cn ((cI s).map (nowM s)) :: L) h K := by
 have hs := hs0
 obtain ⟨pa, pc, ma, mc, ea, ec, xa, xc, oa, oc, da, dc, ta, tc, ka, kc, ra, rc, rfl⟩ := hs.slices
 have hl := H.len
 have hcl : (cI s).length ≤ s.members.length := cP_len _ _
 obtain ⟨n, hn⟩ : ∃ n, n = (cI s).length := ⟨_, rfl⟩
 simp only [shB, stC, slB, nwB, List.cons_append, List.nil_append, ← hn] at hk hcs hcn ⊢
 refine x_enterA Tryz.func32 rfl (rs := []) rfl rfl mixed (by kernel_rfl) rfl rfl fun ap nd => ?_
 have hbh : h bh = noC := ap.1
 have hbs : h bs = noC := ap.2.1
 have hbn : h bn = noC := ap.2.2.1
 have nsh : bs ≠ bh := nd.1.1
 have nnh : bn ≠ bh := nd.1.2.1
 have nns : bn ≠ bs := nd.2.1.1
 clear ap nd
 simp -dsimp -implicitDefEqProofs (disch := first|with_reducible assumption|omega) [go_sem]
 refine xloop (γ := Nat × Option (Nat × Nat)) (0, none) (fun q => q.1 ≤ n ∧ okO q.2 (tkI s q.1).length ∧ apO q.2 L h)
  (fun q => [(16, .int .i64 q.1), (15, .int .i64 n), (14, .slice (some ⟨bs, 0, none⟩) n cs), (2, ovs q.2 (tkI s q.1).length), (0, .pointer (some ⟨bh, 0, none⟩))])
  (fun q => shB bh s ⟨.slice pa s.purses.length pc, .slice ma s.members.length mc, .slice ea s.entry.length ec, .slice xa s.exit.length xc, .slice oa s.pool.length oc, .slice da s.dues.length dc, .slice ta s.motions.length tc, .slice ka s.marks.length kc, .slice ra s.ring.length rc⟩ (modeS s) (actS s) (.slice (some ⟨bs, 0, none⟩) n cs) (.slice (some ⟨bn, 0, none⟩) n cn) :: slB bs cs ((cI s).map (slip0 s)) :: nwB bn cn ((cI s).map (nowM s)) :: oent 89 4 q.2 (((tkI s q.1).map (nowM s)).flatMap sdC) L) (fun _ => h) (fun q => n - q.1) ?_ ?_ ?_ ?_
 ·exact ⟨Nat.zero_le _, rfl, trivial⟩
 ·simp [Ent, List.lookup, xEnv, tkI, ovs]
 ·exact Drop.refl _ _
 rintro ⟨k, o⟩ ⟨i1, i2, i3⟩
 simp only [shB, stC, slB, nwB, List.cons_append, List.nil_append] at i1 i2 i3 ⊢
 by_cases c1 : k < n
 ·have c1' : k < (cI s).length := by omega
  have hts := tkI_succS c1'
  have htl := tkI_len s k
  obtain ⟨i, hi⟩ : ∃ i, i = (cI s)[k] := ⟨_, rfl⟩
  rw [← hi] at hts
  have hil : i < s.members.length := by rw [hi]; exact cI_lt c1'
  have gs : gr zeroSl ((cI s).map (slip0 s)) k = slip0 s i := by rw [gr_map zeroSl _ c1', hi]
  have gn : gr zeroM ((cI s).map (nowM s)) k = nowM s i := by rw [gr_map zeroM _ c1', hi]
  have kl1 : k < ((cI s).map (slip0 s)).length := by simpa using c1'
  have kl2 : k < ((cI s).map (nowM s)).length := by simpa using c1'
  have g0 : ∀ (K : Value → Prop) (t : Tok K), xNth (((cI s).map (slip0 s)).flatMap slC) (k * 8) K t = K (.int .i64 i) := fun K t => xNth_rec slC_len zeroSl _ (m := 0) kl1 (by decide) (by rw [gs]; rfl) K t
  have g1 : ∀ (K : Value → Prop) (t : Tok K), xNth (((cI s).map (slip0 s)).flatMap slC) (k * 8 + 1) K t = K (.bool (thB s i)) := fun K t => xNth_rec slC_len zeroSl _ (m := 1) kl1 (by decide) (by rw [gs]; rfl) K t
  have g2 : ∀ (K : Value → Prop) (t : Tok K), xNth (((cI s).map (slip0 s)).flatMap slC) (k * 8 + 2) K t = K (.int .u64 0) := fun K t => xNth_rec slC_len zeroSl _ (m := 2) kl1 (by decide) (by rw [gs]; rfl) K t
  have g3 : ∀ (K : Value → Prop) (t : Tok K), xNth (((cI s).map (slip0 s)).flatMap slC) (k * 8 + 3) K t = K (.int .u64 0) := fun K t => xNth_rec slC_len zeroSl _ (m := 3) kl1 (by decide) (by rw [gs]; rfl) K t
  have g4 : ∀ (K : Value → Prop) (t : Tok K), xNth (((cI s).map (slip0 s)).flatMap slC) (k * 8 + 4) K t = K (.int .u64 0) := fun K t => xNth_rec slC_len zeroSl _ (m := 4) kl1 (by decide) (by rw [gs]; rfl) K t
  have g5 : ∀ (K : Value → Prop) (t : Tok K), xNth (((cI s).map (slip0 s)).flatMap slC) (k * 8 + 5) K t = K (.int .u64 0) := fun K t => xNth_rec slC_len zeroSl _ (m := 5) kl1 (by decide) (by rw [gs]; rfl) K t
  have g6 : ∀ (K : Value → Prop) (t : Tok K), xNth (((cI s).map (slip0 s)).flatMap slC) (k * 8 + 6) K t = K (.int .i64 0) := fun K t => xNth_rec slC_len zeroSl _ (m := 6) kl1 (by decide) (by rw [gs]; rfl) K t
  have g7 : ∀ (K : Value → Prop) (t : Tok K), xNth (((cI s).map (slip0 s)).flatMap slC) (k * 8 + 7) K t = K (.int .u64 0) := fun K t => xNth_rec slC_len zeroSl _ (m := 7) kl1 (by decide) (by rw [gs]; rfl) K t
  have w0 : ∀ (K : Value → Prop) (t : Tok K), xNth (((cI s).map (nowM s)).flatMap sdC) (k * 4) K t = K (.int .u64 (nowM s i).bal) := fun K t => xNth_rec sdC_len zeroM _ (m := 0) kl2 (by decide) (by rw [gn]; rfl) K t
  have w1 : ∀ (K : Value → Prop) (t : Tok K), xNth (((cI s).map (nowM s)).flatMap sdC) (k * 4 + 1) K t = K (.int .u64 (nowM s i).eff) := fun K t => xNth_rec sdC_len zeroM _ (m := 1) kl2 (by decide) (by rw [gn]; rfl) K t
  have w2 : ∀ (K : Value → Prop) (t : Tok K), xNth (((cI s).map (nowM s)).flatMap sdC) (k * 4 + 2) K t = K (.int .u64 (nowM s i).score) := fun K t => xNth_rec sdC_len zeroM _ (m := 2) kl2 (by decide) (by rw [gn]; rfl) K t
  have w3 : ∀ (K : Value → Prop) (t : Tok K), xNth (((cI s).map (nowM s)).flatMap sdC) (k * 4 + 3) K t = K (.int .i64 (nowM s i).streak) := fun K t => xNth_rec sdC_len zeroM _ (m := 3) kl2 (by decide) (by rw [gn]; rfl) K t
  simp -dsimp -implicitDefEqProofs (disch := first|with_reducible assumption|omega) [go_sem, g0, g1, g2, g3, g4, g5, g6, g7]
  refine xnew fun b4 n_b4 h_b4 => ?_
  try simp only [Apart] at n_b4
  have nb4 : bh ≠ b4 ∧ bs ≠ b4 ∧ bn ≠ b4 := ⟨n_b4.1, n_b4.2.1, n_b4.2.2.1⟩
  clear n_b4
  simp -dsimp -implicitDefEqProofs (disch := first|with_reducible assumption|omega) [go_sem]
  cases ct : thB s i with
  | true =>
   rw [ct, if_pos rfl] at hts
   have e1 : ((tkI s k).map (nowM s)).flatMap sdC ++ sdC (nowM s i) = ((tkI s (k + 1)).map (nowM s)).flatMap sdC := by rw [hts, List.map_append, List.flatMap_append]; simp
   have e3 : (tkI s k).length + 1 = (tkI s (k + 1)).length := by rw [hts]; simp
   simp -dsimp -implicitDefEqProofs (disch := first|with_reducible assumption|omega) [go_sem, w0, w1, w2, w3]
   refine xnew fun b9 n_b9 h_b9 => ?_
   try simp only [Apart] at n_b9
   simp -dsimp -implicitDefEqProofs (disch := first|with_reducible assumption|omega) [go_sem]
   refine xappend (t := 96) (e := 89) (sz := 4) (bytes := 32) (by kernel_rfl) tI_89 rfl rfl rfl rfl (by decide) [_, _, _, _, _] _ o (tkI s k).length (((tkI s k).map (nowM s)).flatMap sdC) i2 (by rw [flatG_len sdC_len, List.length_map]) (Src.own List.mem_cons_self) (m := 1) (news := sdC (nowM s i)) rfl (by intro u hu; simp only [sdC, List.mem_cons, List.not_mem_nil, or_false] at hu; rcases hu with rfl | rfl | rfl | rfl <;> rfl) (by simp [maxLen]; omega) (by omega) ?_
   intro o' j1 j2 j3
   rw [e3] at j1
   rw [e1, e3]
   simp -dsimp -implicitDefEqProofs (disch := first|with_reducible assumption|omega) [go_sem]
   exact ⟨k + 1, o', ⟨by omega, j1, apO_tail (apO_tail (apO_tail (apO_tail (apO_tail j2))))⟩, by omega, by simp [Ent, List.lookup], (Drop.tail _ _ _).trans (Drop.tail _ _ _)⟩
  | false =>
   rw [ct, if_neg (by decide)] at hts
   simp -dsimp -implicitDefEqProofs (disch := first|with_reducible assumption|omega) [go_sem]
   exact ⟨k + 1, o, ⟨by omega, by rw [hts]; exact i2, i3⟩, by omega, by simp [Ent, List.lookup, hts], by rw [hts]; exact Drop.tail _ _ _⟩
 obtain rfl : n = k := by omega
 clear c1 i1
 rw [hn, tkI_all] at i2
 rw [show tkI s n = thI s.members s.marks s.members.length by rw [hn, tkI_all]]
 simp -dsimp -implicitDefEqProofs (disch := first|with_reducible assumption|omega) [go_sem]
 have hgm := H.gm
 have hmo := H.most
 have hac := actS_b H
 refine xanyl (.tk 0 (.tk 1 (.tk 2 (.tk 3 (.tk 5 (.tk 6 (.tk 7 (.tk 9 (.tk 10 (.tk 11 (.tk 12 (.tk 14 (.tk 15 (.tk 16 (.tk 17 (.tk 20 (.tk 21 (.tk 22 (.tk 23 (.tk 25 (.tk 26 (.tk 27 (.tkl 4 (.tkl 8 (.tkl 13 (.tkl 18 (.tk 19 (.tkl 24 (.tkl 28 (.or true 29 (.tk 30 (.fin)) (.nil))))))))))))))))))))))))))))))) (by kernel_rfl) (by kernel_rfl) _ (Drop.refl _ _) ?_
 simp -dsimp -implicitDefEqProofs (disch := first|with_reducible assumption|omega) [go_sem]
 refine Spec.ap (bmint_any s.par H.ok H.r (actS s) (s.gen + s.mint) s.most (modeS s) (by omega) (by omega) (by omega) fun h1 le1 ap => ?_)
 have hbh1 : h1 bh = noC := ap.1
 clear ap
 rw [show mintP s.par (actS s) (s.gen + s.mint) s.most (modeS s) = mintS s from rfl]
 refine xkp (Drop.forget le1) ?_
 have hmb := mintS_b H
 simp -dsimp -implicitDefEqProofs (disch := first|with_reducible assumption|omega) [go_sem]
 have htl : (thI s.members s.marks s.members.length).length ≤ s.members.length := thI_len _ _ _
 refine call_pub_o (n := (thI s.members s.marks s.members.length).length) [_, _, _] i2 (by rw [flatG_len sdC_len, List.length_map]) (by omega) (fun h2 le2 sl2 => ?_) ⟨Tryz.f128, Tryz.func128, by decide +kernel, rfl⟩
 have rec2 : Recs sdC 4 h2 (ovs o (thI s.members s.marks s.members.length).length) ((thI s.members s.marks s.members.length).map (nowM s)) := by
  refine ⟨sdC_len, ?_⟩
  rw [List.length_map]
  exact sl2
 refine Spec.ap (prizes_any s.par H.ok H.r _ rec2 (thM_ok H) (by rw [List.length_map]; omega) (mintS s) hmb fun h3 r3 le3 i4 ap => ?_)
 simp only [List.cons_append, List.nil_append] at ap ⊢
 have hbh3 : h3 bh = noC := ap.1
 have hbs3 : h3 bs = noC := ap.2.1
 have hbn3 : h3 bn = noC := ap.2.2.1
 clear ap
 rw [← partsS_eq] at i4
 have le0 : PH.le h h3 := le1.trans (le2.trans le3)
 obtain ⟨pa0, pc0, rfl, hpc0, _⟩ := i4.open
 have hpl := partsS_len s
 simp -dsimp -implicitDefEqProofs (disch := first|with_reducible assumption|omega) [go_sem]
 refine xloop (γ := Nat × Option Addr × Nat) (0, pa0, pc0) (fun q => q.1 ≤ n ∧ Ints h3 .u64 (.slice q.2.1 ((partsS s).length - (tkI s q.1).length) q.2.2) ((partsS s).drop (tkI s q.1).length))
  (fun q => [(83, .int .i64 q.1), (82, .int .i64 n), (6, .slice q.2.1 ((partsS s).length - (tkI s q.1).length) q.2.2), (0, .pointer (some ⟨bh, 0, none⟩))])
  (fun q => shB bh s ⟨.slice pa s.purses.length pc, .slice ma s.members.length mc, .slice ea s.entry.length ec, .slice xa s.exit.length xc, .slice oa s.pool.length oc, .slice da s.dues.length dc, .slice ta s.motions.length tc, .slice ka s.marks.length kc, .slice ra s.ring.length rc⟩ (modeS s) (actS s) (.slice (some ⟨bs, 0, none⟩) n cs) (.slice (some ⟨bn, 0, none⟩) n cn) :: slB bs cs (mixL (slipP s) (slip0 s) (cI s) q.1) :: nwB bn cn (mixL (nowP s) (nowM s) (cI s) q.1) :: L) (fun _ => h3) (fun q => n - q.1) ?_ ?_ ?_ ?_
 ·exact ⟨Nat.zero_le _, by simpa [tkI] using i4⟩
 ·simp [Ent, List.lookup, tkI]
 ·rw [mixL_0, mixL_0]
  exact Drop.refl _ _
 rintro ⟨k, qa, qc⟩ ⟨i1, i5⟩
 simp only [shB, stC, slB, nwB, List.cons_append, List.nil_append] at i1 i5 ⊢
 by_cases c1 : k < n
 ·have c1' : k < (cI s).length := by omega
  have hts := tkI_succS c1'
  have hpz := prize_at c1'
  have hmono := tkI_mono s (show k + 1 ≤ (cI s).length from c1')
  rw [tkI_all] at hmono
  obtain ⟨i, hi⟩ : ∃ i, i = (cI s)[k] := ⟨_, rfl⟩
  rw [← hi] at hts hpz
  have hil : i < s.members.length := by rw [hi]; exact cI_lt c1'
  have gs : gr zeroSl (mixL (slipP s) (slip0 s) (cI s) k) k = slip0 s i := by rw [mixL_at zeroSl c1', hi]
  have gn : gr zeroM (mixL (nowP s) (nowM s) (cI s) k) k = nowM s i := by rw [mixL_at zeroM c1', hi]
  have kl1 : k < (mixL (slipP s) (slip0 s) (cI s) k).length := by rw [mixL_len]; exact c1'
  have kl2 : k < (mixL (nowP s) (nowM s) (cI s) k).length := by rw [mixL_len]; exact c1'
  have hst1 := mixL_set (f := slipP s) (g := slip0 s) c1'
  have hst2 := mixL_set (f := nowP s) (g := nowM s) c1'
  have hsm1 := mixL_same (f := slipP s) (g := slip0 s) c1'
  have hsm2 := mixL_same (f := nowP s) (g := nowM s) c1'
  have ml1 : (mixL (slipP s) (slip0 s) (cI s) k).length = n := by rw [mixL_len, hn]
  have ml2 : (mixL (nowP s) (nowM s) (cI s) k).length = n := by rw [mixL_len, hn]
  rw [← hi] at hst1 hst2 hsm1 hsm2
  have hpb := prize_b H i
  have hno := now_ok H hil
  generalize mixL (slipP s) (slip0 s) (cI s) k = M1 at *
  generalize mixL (nowP s) (nowM s) (cI s) k = M2 at *
  have g1 : ∀ (K : Value → Prop) (t : Tok K), xNth (M1.flatMap slC) (k * 8 + 1) K t = K (.bool (thB s i)) := fun K t => xNth_rec slC_len zeroSl _ (m := 1) kl1 (by decide) (by rw [gs]; rfl) K t
  have w0 : ∀ (K : Value → Prop) (t : Tok K), xNth (M2.flatMap sdC) (k * 4) K t = K (.int .u64 (nowM s i).bal) := fun K t => xNth_rec sdC_len zeroM _ (m := 0) kl2 (by decide) (by rw [gn]; rfl) K t
  have w1 : ∀ (K : Value → Prop) (t : Tok K), xNth (M2.flatMap sdC) (k * 4 + 1) K t = K (.int .u64 (nowM s i).eff) := fun K t => xNth_rec sdC_len zeroM _ (m := 1) kl2 (by decide) (by rw [gn]; rfl) K t
  have w2 : ∀ (K : Value → Prop) (t : Tok K), xNth (M2.flatMap sdC) (k * 4 + 2) K t = K (.int .u64 (nowM s i).score) := fun K t => xNth_rec sdC_len zeroM _ (m := 2) kl2 (by decide) (by rw [gn]; rfl) K t
  have w3 : ∀ (K : Value → Prop) (t : Tok K), xNth (M2.flatMap sdC) (k * 4 + 3) K t = K (.int .i64 (nowM s i).streak) := fun K t => xNth_rec sdC_len zeroM _ (m := 3) kl2 (by decide) (by rw [gn]; rfl) K t
  simp -dsimp -implicitDefEqProofs (disch := first|with_reducible assumption|omega) [go_sem, g1]
  cases ct : thB s i with
  | true =>
   rw [ct, if_pos rfl] at hts
   have htl1 : (tkI s (k + 1)).length = (tkI s k).length + 1 := by rw [hts]; simp
   have hjm : (tkI s k).length < (partsS s).length := by omega
   have i5' := i5
   obtain ⟨a5, c5, e5, hc5, _, _, hcs5⟩ := i5.open
   injection e5 with e51 e52 e53
   subst e51; subst e53
   rw [List.length_drop] at hc5
   have hcs : ∀ x, x < (partsS s).length - (tkI s k).length → elemCell h3 qa x = some (.int .u64 (at0 (partsS s) ((tkI s k).length + x))) := fun x hx => by rw [hcs5 x (by rw [List.length_drop]; exact hx), at0_drop]
   have hu25 : tSh Tryz.prog 25 = .sl 22 1 8 := by kernel_rfl
   have hfl1 : (M1.flatMap slC).length = n * 8 := by rw [flatG_len slC_len, ml1]
   have hk8 := flat_lt (w := 8) c1 (show 3 < 8 by decide)
   have hk4 := flat_lt (w := 4) c1 (show 3 < 4 by decide)
   have hfl2 : (M2.flatMap sdC).length = n * 4 := by rw [flatG_len sdC_len, ml2]
   simp -dsimp -implicitDefEqProofs (disch := first|with_reducible assumption|omega) [go_sem]
   refine xanyl (.tk 0 (.tk 1 (.tk 2 (.tk 4 (.tk 5 (.tkl 3 (.tk 6 (.tk 7 (.or false 8 (.tk 9 (.fin)) (.nil)))))))))) (by kernel_rfl) (by kernel_rfl) [] (drop_left [] _ _) ?_
   have hcs0 : at0 (partsS s) ((tkI s k).length + 0) = prizeS s i := by rw [Nat.add_zero, hpz]
   obtain ⟨a1, ha1⟩ : ∃ a1 : SlD, a1 = { slip0 s i with prize := prizeS s i } := ⟨_, rfl⟩
   obtain ⟨a2, ha2⟩ : ∃ a2 : SlD, a2 = { slip0 s i with prize := prizeS s i, over := (payS s i).2 } := ⟨_, rfl⟩
   have hset0 : (M1.flatMap slC).set (k * 8 + 2) (.int .u64 (prizeS s i)) = (M1.set k a1).flatMap slC := flatG_set slC_len zeroSl M1 (m := 2) kl1 (by decide) (by rw [gs, ha1]; rfl)
   have kl1' : k < (M1.set k a1).length := by rw [List.length_set]; exact kl1
   have gs' : gr zeroSl (M1.set k a1) k = a1 := by rw [gr_lt kl1', List.getElem_set_self]
   have hset1 : ((M1.set k a1).flatMap slC).set (k * 8 + 3) (.int .u64 (payS s i).2) = (M1.set k a2).flatMap slC := by
    rw [flatG_set slC_len zeroSl (M1.set k a1) (m := 3) kl1' (by decide) (a' := a2) (by rw [gs', ha1, ha2]; rfl), List.set_set]
   have r2 : ∀ (K : Value → Prop) (t : Tok K), xNth ((M1.set k a1).flatMap slC) (k * 8 + 2) K t = K (.int .u64 (prizeS s i)) := fun K t => xNth_rec slC_len zeroSl _ (m := 2) kl1' (by decide) (by rw [gs', ha1]; rfl) K t
   have hsum1 : (M1.map fun a => (slC a).length).sum = n * 8 := by rw [← List.length_flatMap, hfl1]
   have hfl1' : ((M1.set k a1).flatMap slC).length = n * 8 := by rw [flatG_len slC_len, List.length_set, ml1]
   simp -dsimp -implicitDefEqProofs (disch := first|with_reducible assumption|omega) [go_sem, idx hcs, xSl_lo hu25, hcs0]
   refine ⟨by omega, ?_⟩
   rw [← hpz, hset0]
   refine xanyl (.tk 0 (.tk 1 (.tk 2 (.tk 4 (.tk 5 (.tk 6 (.tk 7 (.tk 8 (.tk 9 (.tk 11 (.tk 12 (.tk 13 (.tk 15 (.tk 18 (.tk 19 (.tk 20 (.tkl 3 (.tkl 10 (.tkl 14 (.tk 16 (.tkl 17 (.tkl 21 (.or true 22 (.tk 23 (.tk 24 (.tk 25 (.tk 26 (.or false 27 (.tk 28 (.tk 29 (.or false 30 (.fin) (.nil)))) (.nil)))))) (.nil)))))))))))))))))))))))) (by kernel_rfl) (by kernel_rfl) _ (Drop.refl _ _) ?_
   simp -dsimp -implicitDefEqProofs (disch := first|with_reducible assumption|omega) [go_sem, w0, w1, w2, w3, r2]
   refine ppay_any s.par H.ok H.r (nowM s i) hno (prizeS s i) hpb ?_
   rw [show payM s.par (nowM s i) (prizeS s i) = payS s i from rfl]
   refine xkp (Drop.refl _ _) ?_
   simp -dsimp -implicitDefEqProofs (disch := first|with_reducible assumption|omega) [go_sem]
   have hsum2 : (M2.map fun a => (sdC a).length).sum = n * 4 := by rw [← List.length_flatMap, hfl2]
   have hsum1' : ((M1.map fun a => (slC a).length).set k (slC a1).length).sum = n * 8 := by
    have : ((M1.set k a1).map fun a => (slC a).length).sum = n * 8 := by rw [← List.length_flatMap, hfl1']
    rwa [List.map_set] at this
   have i6 := i5'.part 1 ((partsS s).length - (tkI s k).length) (by omega) (by rw [List.length_drop]; exact Nat.le_refl _)
   rw [List.drop_drop, List.take_of_length_le (by rw [List.length_drop]; omega), Nat.sub_sub, ← htl1] at i6
   refine ⟨by omega, by omega, k + 1, _, _, ⟨by omega, i6⟩, by omega, by simp [Ent, List.lookup, htl1, Nat.sub_sub], ?_⟩
   rw [hset1, sdset4 kl2, ← hst1, ← hst2, show slipP s i = a2 by rw [slipP, if_pos ct, ha2], show nowP s i = (payS s i).1 by rw [nowP, if_pos ct]]
   exact Drop.refl _ _
  | false =>
   rw [ct, if_neg (by decide)] at hts
   simp -dsimp -implicitDefEqProofs (disch := first|with_reducible assumption|omega) [go_sem]
   refine ⟨k + 1, qa, qc, ⟨by omega, by rw [hts]; exact i5⟩, by omega, by simp [Ent, List.lookup, hts], ?_⟩
   rw [hsm1 (by simp [slipP, ct]), hsm2 (by simp [nowP, ct])]
   exact Drop.refl _ _
 ·obtain rfl : n = k := by omega
  rw [hn] at hk ⊢
  rw [mixL_all, mixL_all]
  simp -dsimp -implicitDefEqProofs (disch := first|with_reducible assumption|omega) [go_sem]
  exact fin_here (hk h3 le0)
open Go.RowKit Go.Proofs Go.Bl
variable {L : Own} {h : PH} {K : PK}
theorem fineS_b {s : StD} (H : SlH s) {i : Nat} (hi : i < s.members.length) : 0 ≤ fineS s i ∧ fineS s i ≤ (nowM s i).bal ∧ (nowM s i).bal ≤ 18446744073709551615 ∧ 0 ≤ burnP s.par (fineS s i) ∧ burnP s.par (fineS s i) ≤ fineS s i := by
 have hno := now_ok H hi
 have f := fine_b H.ok H.r hno (modeS s)
 have ub := hno.u (nowM s i).bal (by simp)
 have hs := parR_streak H.r
 have := burn_le (p := s.par) (n := fineS s i) ⟨f.1, by have := f.2; unfold fineS; omega⟩ (by omega)
 exact ⟨f.1, f.2, ub.2, this.1, this.2.1⟩
theorem sfines_pos {s : StD} (v : SV) (hs0 : IsSt h v s) (H : SlH s) (bh bs cs bn cn : Nat) (hcs : (cI s).length ≤ cs) (hcn : (cI s).length ≤ cn)
  (hk : K (.tuple #[]) (shB bh s v (modeS s) (actS s) (.slice (some ⟨bs, 0, none⟩) (cI s).length cs) (.slice (some ⟨bn, 0, none⟩) (cI s).length cn) :: slB bs cs ((cI s).map (slip1 s)) :: nwB bn cn ((cI s).map (endM' s)) :: L) h) :
  Spec Tryz.prog 33 [.pointer (some ⟨bh, 0, none⟩)] (shB bh s v (modeS s) (actS s) (.slice (some ⟨bs, 0, none⟩) (cI s).length cs) (.slice (some ⟨bn, 0, none⟩) (cI s).length cn) :: slB bs cs ((cI s).map (slipP s)) :: nwB bn cn ((cI s).map (nowP s)) :: L) h K := by
 have hs := hs0
 obtain ⟨pa, pc, ma, mc, ea, ec, xa, xc, oa, oc, da, dc, ta, tc, ka, kc, ra, rc, rfl⟩ := hs.slices
 have hl := H.len
 have hcl : (cI s).length ≤ s.members.length := cP_len _ _
 obtain ⟨n, hn⟩ : ∃ n, n = (cI s).length := ⟨_, rfl⟩
 simp only [shB, stC, slB, nwB, List.cons_append, List.nil_append, ← hn] at hk hcs hcn ⊢
 refine x_enterA Tryz.func33 rfl (rs := []) rfl rfl mixed (by kernel_rfl) rfl rfl fun ap nd => ?_
 have hbh : h bh = noC := ap.1
 have hbs : h bs = noC := ap.2.1
 have hbn : h bn = noC := ap.2.2.1
 have nsh : bs ≠ bh := nd.1.1
 have nnh : bn ≠ bh := nd.1.2.1
 have nns : bn ≠ bs := nd.2.1.1
 clear ap nd
 simp -dsimp -implicitDefEqProofs (disch := first|with_reducible assumption|omega) [go_sem]
 refine xloop (γ := Nat) 0 (fun k => k ≤ n) (fun k => [(12, .int .i64 k), (11, .int .i64 n), (0, .pointer (some ⟨bh, 0, none⟩))])
  (fun k => shB bh s ⟨.slice pa s.purses.length pc, .slice ma s.members.length mc, .slice ea s.entry.length ec, .slice xa s.exit.length xc, .slice oa s.pool.length oc, .slice da s.dues.length dc, .slice ta s.motions.length tc, .slice ka s.marks.length kc, .slice ra s.ring.length rc⟩ (modeS s) (actS s) (.slice (some ⟨bs, 0, none⟩) n cs) (.slice (some ⟨bn, 0, none⟩) n cn) :: slB bs cs (mixL (slip1 s) (slipP s) (cI s) k) :: nwB bn cn (mixL (endM' s) (nowP s) (cI s) k) :: L) (fun _ => h) (fun k => n - k) ?_ ?_ ?_ ?_
 ·exact Nat.zero_le _
 ·simp [Ent, List.lookup, xEnv]
 ·rw [mixL_0, mixL_0]
  exact Drop.refl _ _
 intro k i1
 simp only [shB, stC, slB, nwB, List.cons_append, List.nil_append] at i1 ⊢
 by_cases c1 : k < n
 ·have c1' : k < (cI s).length := by omega
  obtain ⟨i, hi⟩ : ∃ i, i = (cI s)[k] := ⟨_, rfl⟩
  have hil : i < s.members.length := by rw [hi]; exact cI_lt c1'
  have gs : gr zeroSl (mixL (slip1 s) (slipP s) (cI s) k) k = slipP s i := by rw [mixL_at zeroSl c1', hi]
  have gn : gr zeroM (mixL (endM' s) (nowP s) (cI s) k) k = nowP s i := by rw [mixL_at zeroM c1', hi]
  have kl1 : k < (mixL (slip1 s) (slipP s) (cI s) k).length := by rw [mixL_len]; exact c1'
  have kl2 : k < (mixL (endM' s) (nowP s) (cI s) k).length := by rw [mixL_len]; exact c1'
  have hst1 := mixL_set (f := slip1 s) (g := slipP s) c1'
  have hst2 := mixL_set (f := endM' s) (g := nowP s) c1'
  have hsm1 := mixL_same (f := slip1 s) (g := slipP s) c1'
  have hsm2 := mixL_same (f := endM' s) (g := nowP s) c1'
  have ml1 : (mixL (slip1 s) (slipP s) (cI s) k).length = n := by rw [mixL_len, hn]
  have ml2 : (mixL (endM' s) (nowP s) (cI s) k).length = n := by rw [mixL_len, hn]
  rw [← hi] at hst1 hst2 hsm1 hsm2
  have hno := now_ok H hil
  have hfb := fineS_b H hil
  generalize mixL (slip1 s) (slipP s) (cI s) k = M1 at *
  generalize mixL (endM' s) (nowP s) (cI s) k = M2 at *
  have g1 : ∀ (K : Value → Prop) (t : Tok K), xNth (M1.flatMap slC) (k * 8 + 1) K t = K (.bool (thB s i)) := fun K t => xNth_rec slC_len zeroSl _ (m := 1) kl1 (by decide) (by rw [gs]; unfold slipP; split <;> rfl) K t
  simp -dsimp -implicitDefEqProofs (disch := first|with_reducible assumption|omega) [go_sem, g1]
  cases ct : thB s i with
  | true =>
   simp -dsimp -implicitDefEqProofs (disch := first|with_reducible assumption|omega) [go_sem]
   refine ⟨k + 1, by omega, by omega, by simp [Ent, List.lookup], ?_⟩
   rw [hsm1 (by simp [slip1, slipP, slip0, ct]), hsm2 (by simp [endM', nowP, ct])]
   exact Drop.refl _ _
  | false =>
   have en : nowP s i = nowM s i := by rw [nowP, if_neg (by rw [ct]; decide)]
   have es : slipP s i = slip0 s i := by rw [slipP, if_neg (by rw [ct]; decide)]
   rw [en] at gn
   rw [es] at gs
   have w0 : ∀ (K : Value → Prop) (t : Tok K), xNth (M2.flatMap sdC) (k * 4) K t = K (.int .u64 (nowM s i).bal) := fun K t => xNth_rec sdC_len zeroM _ (m := 0) kl2 (by decide) (by rw [gn]; rfl) K t
   have w1 : ∀ (K : Value → Prop) (t : Tok K), xNth (M2.flatMap sdC) (k * 4 + 1) K t = K (.int .u64 (nowM s i).eff) := fun K t => xNth_rec sdC_len zeroM _ (m := 1) kl2 (by decide) (by rw [gn]; rfl) K t
   have w2 : ∀ (K : Value → Prop) (t : Tok K), xNth (M2.flatMap sdC) (k * 4 + 2) K t = K (.int .u64 (nowM s i).score) := fun K t => xNth_rec sdC_len zeroM _ (m := 2) kl2 (by decide) (by rw [gn]; rfl) K t
   have w3 : ∀ (K : Value → Prop) (t : Tok K), xNth (M2.flatMap sdC) (k * 4 + 3) K t = K (.int .i64 (nowM s i).streak) := fun K t => xNth_rec sdC_len zeroM _ (m := 3) kl2 (by decide) (by rw [gn]; rfl) K t
   simp -dsimp -implicitDefEqProofs (disch := first|with_reducible assumption|omega) [go_sem]
   refine xanyl (.tk 0 (.tk 1 (.tk 2 (.tk 3 (.tk 5 (.tk 6 (.tk 7 (.tk 9 (.tk 12 (.tk 13 (.tk 14 (.tkl 4 (.tkl 8 (.tk 10 (.tkl 11 (.tkl 15 (.or true 16 (.tk 17 (.tk 18 (.tk 19 (.tk 20 (.or true 21 (.or false 22 (.tk 23 (.tk 24 (.fin))) (.nil)) (.nil)))))) (.or true 21 (.or true 16 (.tk 17 (.tk 18 (.tk 19 (.tk 20 (.or false 22 (.tk 23 (.tk 24 (.fin))) (.nil)))))) (.nil)) (.nil))))))))))))))))))) (by kernel_rfl) (by kernel_rfl) _ (Drop.refl _ _) ?_
   have esum : burnP s.par (fineS s i) + (fineS s i - burnP s.par (fineS s i)) = fineS s i := by omega
   obtain ⟨a1, ha1⟩ : ∃ a1 : SlD, a1 = { slip0 s i with fine := fineS s i } := ⟨_, rfl⟩
   have ha2 : slip1 s i = { slip0 s i with fine := fineS s i, burned := burnP s.par (fineS s i) } := by rw [slip1, if_neg (by rw [ct]; decide)]; simp only [slip0, ct]
   have hem : endM' s i = fineM s.par (nowM s i) (modeS s) := by rw [endM', if_neg (by rw [ct]; decide)]; rfl
   have hset0 : (M1.flatMap slC).set (k * 8 + 4) (.int .u64 (fineS s i)) = (M1.set k a1).flatMap slC := flatG_set slC_len zeroSl M1 (m := 4) kl1 (by decide) (by rw [gs, ha1]; rfl)
   have kl1' : k < (M1.set k a1).length := by rw [List.length_set]; exact kl1
   have gs' : gr zeroSl (M1.set k a1) k = a1 := by rw [gr_lt kl1', List.getElem_set_self]
   have hset1 : ((M1.set k a1).flatMap slC).set (k * 8 + 5) (.int .u64 (burnP s.par (fineS s i))) = (M1.set k (slip1 s i)).flatMap slC := by
    rw [flatG_set slC_len zeroSl (M1.set k a1) (m := 5) kl1' (by decide) (a' := slip1 s i) (by rw [gs', ha1, ha2]; rfl), List.set_set]
   have hk8 := flat_lt (w := 8) c1 (show 5 < 8 by decide)
   have hk4 := flat_lt (w := 4) c1 (show 3 < 4 by decide)
   have hsum1 : (M1.map fun a => (slC a).length).sum = n * 8 := by rw [← List.length_flatMap, flatG_len slC_len, ml1]
   have hsum2 : (M2.map fun a => (sdC a).length).sum = n * 4 := by rw [← List.length_flatMap, flatG_len sdC_len, ml2]
   simp -dsimp -implicitDefEqProofs (disch := first|with_reducible assumption|omega) [go_sem, w0, w1, w2, w3]
   refine xpl_or ?_ ?_
   ·simp -dsimp -implicitDefEqProofs (disch := first|with_reducible assumption|omega) [go_sem]
    refine ftake_any s.par H.ok H.r (nowM s i) hno (modeS s) ?_
    rw [show fineP s.par (nowM s i) (modeS s) = fineS s i from rfl]
    refine xkp (Drop.refl _ _) ?_
    simp -dsimp -implicitDefEqProofs (disch := first|with_reducible assumption|omega) [go_sem]
    refine xnew fun b4 n_b4 h_b4 => ?_
    try simp only [Apart] at n_b4
    have nb4 : bh ≠ b4 ∧ bs ≠ b4 ∧ bn ≠ b4 := ⟨n_b4.1, n_b4.2.1, n_b4.2.2.1⟩
    clear n_b4
    refine xkp (Drop.tail _ _ _) ?_
    simp -dsimp -implicitDefEqProofs (disch := first|with_reducible assumption|omega) [go_sem]
    refine xanyl (.tk 0 (.tk 1 (.tk 2 (.tk 4 (.tk 5 (.tk 6 (.tk 8 (.tk 9 (.tk 10 (.tk 11 (.tkl 3 (.tkl 7 (.tk 12 (.or false 13 (.tk 14 (.tk 15 (.or false 16 (.tk 17 (.tk 18 (.or false 19 (.fin) (.nil)))) (.nil)))) (.nil))))))))))))))) (by kernel_rfl) (by kernel_rfl) _ (Drop.refl _ _) ?_
    simp -dsimp -implicitDefEqProofs (disch := first|with_reducible assumption|omega) [go_sem, esum]
    refine ⟨by omega, by omega, by omega, ?_⟩
    refine ⟨k + 1, by omega, by omega, by simp [Ent, List.lookup], ?_⟩
    rw [hset0, hset1, sdset4 kl2 (fineM s.par (nowM s i) (modeS s)), ← hem, hst1, hst2]
    exact Drop.tail _ _ _
   ·simp -dsimp -implicitDefEqProofs (disch := first|with_reducible assumption|omega) [go_sem]
    refine xnew fun b4 n_b4 h_b4 => ?_
    try simp only [Apart] at n_b4
    have nb4 : bh ≠ b4 ∧ bs ≠ b4 ∧ bn ≠ b4 := ⟨n_b4.1, n_b4.2.1, n_b4.2.2.1⟩
    clear n_b4
    refine xkp (Drop.tail _ _ _) ?_
    simp -dsimp -implicitDefEqProofs (disch := first|with_reducible assumption|omega) [go_sem]
    refine ftake_any s.par H.ok H.r (nowM s i) hno (modeS s) ?_
    rw [show fineP s.par (nowM s i) (modeS s) = fineS s i from rfl]
    refine xkp (Drop.tail _ _ _) ?_
    simp -dsimp -implicitDefEqProofs (disch := first|with_reducible assumption|omega) [go_sem]
    refine xanyl (.tk 0 (.tk 1 (.tk 2 (.tk 4 (.tk 5 (.tk 6 (.tk 8 (.tk 9 (.tk 10 (.tk 11 (.tkl 3 (.tkl 7 (.tk 12 (.or false 13 (.tk 14 (.tk 15 (.or false 16 (.tk 17 (.tk 18 (.or false 19 (.fin) (.nil)))) (.nil)))) (.nil))))))))))))))) (by kernel_rfl) (by kernel_rfl) _ (Drop.refl _ _) ?_
    simp -dsimp -implicitDefEqProofs (disch := first|with_reducible assumption|omega) [go_sem, esum]
    refine ⟨by omega, by omega, by omega, ?_⟩
    refine ⟨k + 1, by omega, by omega, by simp [Ent, List.lookup], ?_⟩
    rw [hset0, hset1, sdset4 kl2 (fineM s.par (nowM s i) (modeS s)), ← hem, hst1, hst2]
    exact Drop.tail _ _ _
 ·obtain rfl : n = k := by omega
  rw [hn] at hk ⊢
  rw [mixL_all, mixL_all]
  simp -dsimp -implicitDefEqProofs (disch := first|with_reducible assumption|omega) [go_sem]
  exact fin_here hk
def slipO (s : StD) (i : Nat) : SlD := { slip1 s i with ends := if outB s i then 4 else 0 }
def exK (s : StD) (k : Nat) : List Int := exF s s.exit ((cI s).take k)
theorem exK_succ {s : StD} {k : Nat} (hk : k < (cI s).length) : exK s (k + 1) = if outB s (cI s)[k] then flt (exK s k) (cI s)[k] else exK s k := by
 unfold exK exF
 rw [List.take_succ_eq_append_getElem hk, List.foldl_append]
 rfl
theorem exK_sub (s : StD) : ∀ k, (exK s k).Sublist s.exit
 | 0 => by simp [exK, exF]
 | k + 1 => by
  by_cases hk : k < (cI s).length
  ·rw [exK_succ hk]
   split
   ·exact List.filter_sublist.trans (exK_sub s k)
   ·exact exK_sub s k
  ·have e : (cI s).take (k + 1) = (cI s).take k := by rw [List.take_of_length_le (by omega), List.take_of_length_le (by omega)]
   unfold exK
   rw [e]
   exact exK_sub s k
theorem exK_all (s : StD) : exK s (cI s).length = exF s s.exit (cI s) := by unfold exK; rw [List.take_length]
theorem nd_oentM {e sz : Nat} {o : Option (Nat × Nat)} {xs : List Value} {L : Own} (nd : Nd (oent e sz o xs L)) : ∀ x ∈ L, apB o x.b := by
 cases o with
 | none => exact fun _ _ => trivial
 | some p => exact fun x hx => Ne.symm (of_apart nd.1 x hx)
theorem okO_leM {o : Option (Nat × Nat)} {n m : Nat} (ho : okO o n) (hm : m ≤ n) : okO o m := by
 cases o with
 | none => have : n = 0 := ho; show m = 0; omega
 | some p => exact ⟨Nat.le_trans hm ho.1, ho.2⟩
theorem slip1_f (s : StD) (i : Nat) : (slip1 s i).mem = i ∧ (slip1 s i).there = thB s i ∧ (slip1 s i).ends = 0 ∧ (slip1 s i).paid = 0 := by
 unfold slip1
 split
 ·rename_i c; exact ⟨rfl, c.symm, rfl, rfl⟩
 ·rename_i c; exact ⟨rfl, by simpa using c, rfl, rfl⟩
theorem sends_pos {s : StD} (v : SV) (hs0 : IsSt h v s) (H : SlH s) (bh bs cs bn cn : Nat) (hcs : (cI s).length ≤ cs) (hcn : (cI s).length ≤ cn)
  (hk : ∀ h', PH.le h h' → K (.tuple #[]) (shB bh s v (modeS s) (actS s) (.slice (some ⟨bs, 0, none⟩) (cI s).length cs) (.slice (some ⟨bn, 0, none⟩) (cI s).length cn) :: slB bs cs ((cI s).map (slip2 s)) :: nwB bn cn ((cI s).map (endM' s)) :: L) h') :
  Spec Tryz.prog 34 [.pointer (some ⟨bh, 0, none⟩)] (shB bh s v (modeS s) (actS s) (.slice (some ⟨bs, 0, none⟩) (cI s).length cs) (.slice (some ⟨bn, 0, none⟩) (cI s).length cn) :: slB bs cs ((cI s).map (slip1 s)) :: nwB bn cn ((cI s).map (endM' s)) :: L) h K := by
 have hs := hs0
 obtain ⟨pa, pc, ma, mc, ea, ec, xa, xc, oa, oc, da, dc, ta, tc, ka, kc, ra, rc, rfl⟩ := hs.slices
 have hxv := hs0.x
 have hl := H.len
 have hxl := H.xl
 have hcl : (cI s).length ≤ s.members.length := cP_len _ _
 have hch := parR_streak H.r
 obtain ⟨n, hn⟩ : ∃ n, n = (cI s).length := ⟨_, rfl⟩
 simp only [shB, stC, slB, nwB, List.cons_append, List.nil_append, ← hn] at hk hcs hcn ⊢
 refine x_enterA Tryz.func34 rfl (rs := []) rfl rfl mixed (by kernel_rfl) rfl rfl fun ap nd => ?_
 have hbh : h bh = noC := ap.1
 have hbs : h bs = noC := ap.2.1
 have hbn : h bn = noC := ap.2.2.1
 have nsh : bs ≠ bh := nd.1.1
 have nnh : bn ≠ bh := nd.1.2.1
 have nns : bn ≠ bs := nd.2.1.1
 clear ap nd
 simp -dsimp -implicitDefEqProofs (disch := first|with_reducible assumption|omega) [go_sem]
 refine Spec.apn (lnew_any _ hxv (by omega) (fun z hz => (H.xb z hz).1) H.xn fun bl o _ _ ho ap nd => ?_)
 have hbl : h bl = noC := ap.1
 have nl := apart_oent nd.1
 simp only [Apart] at nl
 have nlh : bh ≠ bl := nl.1
 have nls : bs ≠ bl := nl.2.1
 have nln : bn ≠ bl := nl.2.2.1
 have no := nd_oentM nd.2
 have mh : apB o bh := no _ List.mem_cons_self
 have ms : apB o bs := no _ (List.mem_cons_of_mem _ List.mem_cons_self)
 have mn : apB o bn := no _ (List.mem_cons_of_mem _ (List.mem_cons_of_mem _ List.mem_cons_self))
 clear ap nd nl no
 simp -dsimp -implicitDefEqProofs (disch := first|with_reducible assumption|omega) [go_sem, xFind_oent mh, xFind_oent ms, xFind_oent mn]
 refine xloop (γ := Nat × PH) (0, h) (fun q => q.1 ≤ n ∧ okO o (exK s q.1).length ∧ PH.le h q.2 ∧ q.2 bl = noC ∧ q.2 bh = noC ∧ q.2 bs = noC ∧ q.2 bn = noC)
  (fun q => [(23, .int .i64 q.1), (22, .int .i64 n), (2, .pointer (some ⟨bl, 0, none⟩)), (0, .pointer (some ⟨bh, 0, none⟩))])
  (fun q => lnB bl o (exK s q.1).length :: lnL o (exK s q.1) (shB bh s ⟨.slice pa s.purses.length pc, .slice ma s.members.length mc, .slice ea s.entry.length ec, .slice xa s.exit.length xc, .slice oa s.pool.length oc, .slice da s.dues.length dc, .slice ta s.motions.length tc, .slice ka s.marks.length kc, .slice ra s.ring.length rc⟩ (modeS s) (actS s) (.slice (some ⟨bs, 0, none⟩) n cs) (.slice (some ⟨bn, 0, none⟩) n cn) :: slB bs cs (mixL (slipO s) (slip1 s) (cI s) q.1) :: nwB bn cn ((cI s).map (endM' s)) :: L)) (fun q => q.2) (fun q => n - q.1) ?_ ?_ ?_ ?_
 ·exact ⟨Nat.zero_le _, by simpa [exK, exF] using ho, PH.le_refl h, hbl, hbh, hbs, hbn⟩
 ·simp [Ent, List.lookup, xEnv]
 ·rw [mixL_0, show exK s 0 = s.exit by simp [exK, exF]]
  exact Drop.refl _ _
 rintro ⟨k, h1⟩ ⟨i1, i2, i3, i4, i5, i6, i7⟩
 simp only [shB, stC, slB, nwB, lnB, lnL, List.cons_append, List.nil_append] at i1 i2 i3 i4 i5 i6 i7 ⊢
 by_cases c1 : k < n
 ·have c1' : k < (cI s).length := by omega
  have hsub := exK_sub s k
  have hxs := exK_succ c1'
  obtain ⟨i, hi⟩ : ∃ i, i = (cI s)[k] := ⟨_, rfl⟩
  rw [← hi] at hxs
  have hil : i < s.members.length := by rw [hi]; exact cI_lt c1'
  have gs : gr zeroSl (mixL (slipO s) (slip1 s) (cI s) k) k = slip1 s i := by rw [mixL_at zeroSl c1', hi]
  have gn : gr zeroM ((cI s).map (endM' s)) k = endM' s i := by rw [gr_map zeroM _ c1', hi]
  have kl1 : k < (mixL (slipO s) (slip1 s) (cI s) k).length := by rw [mixL_len]; exact c1'
  have kl2 : k < ((cI s).map (endM' s)).length := by simpa using c1'
  have hst1 := mixL_set (f := slipO s) (g := slip1 s) c1'
  have hsm1 := mixL_same (f := slipO s) (g := slip1 s) c1'
  have ml1 : (mixL (slipO s) (slip1 s) (cI s) k).length = n := by rw [mixL_len, hn]
  rw [← hi] at hst1 hsm1
  have hf := slip1_f s i
  generalize mixL (slipO s) (slip1 s) (cI s) k = M1 at *
  have g0 : ∀ (K : Value → Prop) (t : Tok K), xNth (M1.flatMap slC) (k * 8) K t = K (.int .i64 i) := fun K t => xNth_rec slC_len zeroSl _ (m := 0) kl1 (by decide) (by rw [gs, ← hf.1]; rfl) K t
  have w0 : ∀ (K : Value → Prop) (t : Tok K), xNth (((cI s).map (endM' s)).flatMap sdC) (k * 4) K t = K (.int .u64 (endM' s i).bal) := fun K t => xNth_rec sdC_len zeroM _ (m := 0) kl2 (by decide) (by rw [gn]; rfl) K t
  simp -dsimp -implicitDefEqProofs (disch := first|with_reducible assumption|omega) [go_sem, xFind_oent mh, xFind_oent ms, xFind_oent mn]
  refine xanyl (.tk 0 (.tk 1 (.tk 2 (.tk 4 (.tk 8 (.tk 9 (.tk 10 (.tk 11 (.tk 12 (.tkl 3 (.tk 5 (.tk 6 (.tkl 7 (.tkl 13 (.tk 14 (.fin)))))))))))))))) (by kernel_rfl) (by kernel_rfl) _ (Drop.refl _ _) ?_
  simp -dsimp -implicitDefEqProofs (disch := first|with_reducible assumption|omega) [go_sem, xFind_oent mh, xFind_oent ms, xFind_oent mn, w0]
  by_cases c2 : (endM' s i).bal ≤ s.par.floor
  ·have co : outB s i = true := decide_eq_true c2
   rw [if_pos co] at hxs
   simp -dsimp -implicitDefEqProofs (disch := first|with_reducible assumption|omega) [go_sem, xFind_oent mh, xFind_oent ms, xFind_oent mn, g0]
   refine Spec.ap (ldrop_any o i2 (Nat.le_trans hsub.length_le (by omega)) i (by omega) (fun z hz => by have := H.xb z (hsub.mem hz); omega) (hsub.nodup H.xn) fun h2 b2 le2 ap => ?_)
   have hbl2 : h2 bl = noC := ap.1
   have ap2 := Ap.oent ap.2
   simp only [Ap] at ap2
   obtain ⟨hbh2, hbs2, hbn2, _⟩ := ap2
   clear ap
   rw [← hxs]
   simp -dsimp -implicitDefEqProofs (disch := first|with_reducible assumption|omega) [go_sem, xFind_oent mh, xFind_oent ms, xFind_oent mn, xSet_oent ms]
   have hset0 : (M1.flatMap slC).set (k * 8 + 6) (.int .i64 4) = (M1.set k (slipO s i)).flatMap slC := flatG_set slC_len zeroSl M1 (m := 6) kl1 (by decide) (by rw [gs, slipO, if_pos co]; rfl)
   have hsum1 : (M1.map fun a => (slC a).length).sum = n * 8 := by rw [← List.length_flatMap, flatG_len slC_len, ml1]
   have hk8 := flat_lt (w := 8) c1 (show 6 < 8 by decide)
   refine ⟨by omega, k + 1, h2, ⟨by omega, okO_leM i2 (by rw [hxs]; exact List.length_filter_le _ _), i3.trans le2, hbl2, hbh2, hbs2, hbn2⟩, by omega, by simp [Ent, List.lookup], ?_⟩
   rw [hset0, hst1]
   exact Drop.refl _ _
  ·have co : outB s i = false := decide_eq_false c2
   rw [co, if_neg (by decide)] at hxs
   simp -dsimp -implicitDefEqProofs (disch := first|with_reducible assumption|omega) [go_sem]
   refine ⟨k + 1, h1, ⟨by omega, by rw [hxs]; exact i2, i3, i4, i5, i6, i7⟩, by omega, by simp [Ent, List.lookup], ?_⟩
   rw [hsm1 (by unfold slipO; rw [co]; simp only [Bool.false_eq_true, if_false]; rw [← hf.2.2.1]), hxs]
   exact Drop.refl _ _
 obtain rfl : n = k := by omega
 clear c1 i1
 have hsub := exK_sub s n
 rw [show mixL (slipO s) (slip1 s) (cI s) n = (cI s).map (slipO s) by rw [hn, mixL_all]]
 simp -dsimp -implicitDefEqProofs (disch := first|with_reducible assumption|omega) [go_sem, xFind_oent mh, xFind_oent ms, xFind_oent mn]
 refine Spec.ap (lpop_any o i2 (Nat.le_trans hsub.length_le (by omega)) s.par.churn (by omega) (fun z hz => by have := H.xb z (hsub.mem hz); omega) fun h2 r2 le2 il ap => ?_)
 have ap2 := Ap.oent ap.2
 simp only [Ap] at ap2
 obtain ⟨hbh2, hbs2, hbn2, _⟩ := ap2
 clear ap
 have hexl : (exK s n).take s.par.churn.toNat = leftS s := by rw [leftS, hn, exK_all]
 rw [hexl] at il
 obtain ⟨la, lc, rfl, _⟩ := il.open
 simp -dsimp -implicitDefEqProofs (disch := first|with_reducible assumption|omega) [go_sem, xFind_oent mh, xFind_oent ms, xFind_oent mn]
 refine xloop (γ := Nat) 0 (fun k => k ≤ n) (fun k => [(70, .int .i64 k), (69, .int .i64 n), (6, .slice la (leftS s).length lc), (0, .pointer (some ⟨bh, 0, none⟩))])
  (fun k => shB bh s ⟨.slice pa s.purses.length pc, .slice ma s.members.length mc, .slice ea s.entry.length ec, .slice xa s.exit.length xc, .slice oa s.pool.length oc, .slice da s.dues.length dc, .slice ta s.motions.length tc, .slice ka s.marks.length kc, .slice ra s.ring.length rc⟩ (modeS s) (actS s) (.slice (some ⟨bs, 0, none⟩) n cs) (.slice (some ⟨bn, 0, none⟩) n cn) :: slB bs cs (mixL (slip2 s) (slipO s) (cI s) k) :: nwB bn cn ((cI s).map (endM' s)) :: L) (fun _ => h2) (fun k => n - k) ?_ ?_ ?_ ?_
 ·exact Nat.zero_le _
 ·simp [Ent, List.lookup]
 ·rw [mixL_0]
  exact (Drop.tail _ _ _).trans (Drop.oent _ _ _ _ _ _)
 intro k i1
 simp only [shB, stC, slB, nwB, List.cons_append, List.nil_append] at i1 ⊢
 by_cases c1 : k < n
 ·have c1' : k < (cI s).length := by omega
  obtain ⟨i, hi⟩ : ∃ i, i = (cI s)[k] := ⟨_, rfl⟩
  have hil : i < s.members.length := by rw [hi]; exact cI_lt c1'
  have gs : gr zeroSl (mixL (slip2 s) (slipO s) (cI s) k) k = slipO s i := by rw [mixL_at zeroSl c1', hi]
  have gn : gr zeroM ((cI s).map (endM' s)) k = endM' s i := by rw [gr_map zeroM _ c1', hi]
  have kl1 : k < (mixL (slip2 s) (slipO s) (cI s) k).length := by rw [mixL_len]; exact c1'
  have kl2 : k < ((cI s).map (endM' s)).length := by simpa using c1'
  have hst1 := mixL_set (f := slip2 s) (g := slipO s) c1'
  have hsm1 := mixL_same (f := slip2 s) (g := slipO s) c1'
  have ml1 : (mixL (slip2 s) (slipO s) (cI s) k).length = n := by rw [mixL_len, hn]
  rw [← hi] at hst1 hsm1
  have hf := slip1_f s i
  generalize mixL (slip2 s) (slipO s) (cI s) k = M1 at *
  have g0 : ∀ (K : Value → Prop) (t : Tok K), xNth (M1.flatMap slC) (k * 8) K t = K (.int .i64 i) := fun K t => xNth_rec slC_len zeroSl _ (m := 0) kl1 (by decide) (by rw [gs, ← hf.1]; rfl) K t
  have g6 : ∀ (K : Value → Prop) (t : Tok K), xNth (M1.flatMap slC) (k * 8 + 6) K t = K (.int .i64 (if outB s i then 4 else 0)) := fun K t => xNth_rec slC_len zeroSl _ (m := 6) kl1 (by decide) (by rw [gs]; rfl) K t
  have w0 : ∀ (K : Value → Prop) (t : Tok K), xNth (((cI s).map (endM' s)).flatMap sdC) (k * 4) K t = K (.int .u64 (endM' s i).bal) := fun K t => xNth_rec sdC_len zeroM _ (m := 0) kl2 (by decide) (by rw [gn]; rfl) K t
  have hsum1 : (M1.map fun a => (slC a).length).sum = n * 8 := by rw [← List.length_flatMap, flatG_len slC_len, ml1]
  have hk8 := flat_lt (w := 8) c1 (show 7 < 8 by decide)
  simp -dsimp -implicitDefEqProofs (disch := first|with_reducible assumption|omega) [go_sem, g0]
  refine contains_any _ i il (by omega) ?_
  by_cases c2 : (i : Int) ∈ leftS s
  ·rw [decide_eq_true c2]
   have ee : endsS s i = 5 := by rw [endsS, if_pos c2]
   obtain ⟨a1, ha1⟩ : ∃ a1 : SlD, a1 = { slipO s i with ends := 5 } := ⟨_, rfl⟩
   have ha2 : slip2 s i = { slipO s i with ends := 5, paid := (endM' s i).bal } := by rw [slip2, ee, if_pos (by decide)]; rfl
   have hset0 : (M1.flatMap slC).set (k * 8 + 6) (.int .i64 5) = (M1.set k a1).flatMap slC := flatG_set slC_len zeroSl M1 (m := 6) kl1 (by decide) (by rw [gs, ha1]; rfl)
   have kl1' : k < (M1.set k a1).length := by rw [List.length_set]; exact kl1
   have gs' : gr zeroSl (M1.set k a1) k = a1 := by rw [gr_lt kl1', List.getElem_set_self]
   have g6' : ∀ (K : Value → Prop) (t : Tok K), xNth ((M1.set k a1).flatMap slC) (k * 8 + 6) K t = K (.int .i64 5) := fun K t => xNth_rec slC_len zeroSl _ (m := 6) kl1' (by decide) (by rw [gs', ha1]; rfl) K t
   have hset1 : ((M1.set k a1).flatMap slC).set (k * 8 + 7) (.int .u64 (endM' s i).bal) = (M1.set k (slip2 s i)).flatMap slC := by
    rw [flatG_set slC_len zeroSl (M1.set k a1) (m := 7) kl1' (by decide) (a' := slip2 s i) (by rw [gs', ha1, ha2]; rfl), List.set_set]
   have hsum1' : ((M1.map fun a => (slC a).length).set k (slC a1).length).sum = n * 8 := by
    have : ((M1.set k a1).map fun a => (slC a).length).sum = n * 8 := by rw [← List.length_flatMap, flatG_len slC_len, List.length_set, ml1]
    rwa [List.map_set] at this
   simp -dsimp -implicitDefEqProofs (disch := first|with_reducible assumption|omega) [go_sem]
   refine ⟨by omega, ?_⟩
   rw [hset0]
   simp -dsimp -implicitDefEqProofs (disch := first|with_reducible assumption|omega) [go_sem, g6', w0]
   refine ⟨by omega, k + 1, by omega, by omega, by simp [Ent, List.lookup], ?_⟩
   rw [hset1, hst1]
   exact Drop.refl _ _
  ·rw [decide_eq_false c2]
   by_cases c3 : outB s i = true
   ·rw [c3, if_pos rfl] at g6
    have ee : endsS s i = 4 := by rw [endsS, if_neg c2, if_pos c3]
    have ha2 : slip2 s i = { slipO s i with paid := (endM' s i).bal } := by rw [slip2, ee, if_pos (by decide), slipO, if_pos c3]
    have hset1 : (M1.flatMap slC).set (k * 8 + 7) (.int .u64 (endM' s i).bal) = (M1.set k (slip2 s i)).flatMap slC := flatG_set slC_len zeroSl M1 (m := 7) kl1 (by decide) (by rw [gs, ha2]; rfl)
    simp -dsimp -implicitDefEqProofs (disch := first|with_reducible assumption|omega) [go_sem, g6, w0]
    refine ⟨by omega, k + 1, by omega, by omega, by simp [Ent, List.lookup], ?_⟩
    rw [hset1, hst1]
    exact Drop.refl _ _
   ·rw [if_neg c3] at g6
    have ee : endsS s i = 0 := by rw [endsS, if_neg c2, if_neg c3]
    simp -dsimp -implicitDefEqProofs (disch := first|with_reducible assumption|omega) [go_sem, g6]
    refine ⟨k + 1, by omega, by omega, by simp [Ent, List.lookup], ?_⟩
    rw [hsm1 (by rw [slip2, ee, slipO, if_neg c3, if_neg (by decide), ← hf.2.2.2])]
    exact Drop.refl _ _
 ·obtain rfl : n = k := by omega
  rw [hn] at hk ⊢
  rw [mixL_all]
  simp -dsimp -implicitDefEqProofs (disch := first|with_reducible assumption|omega) [go_sem]
  exact fin_here (hk h2 (i3.trans le2))
end Go.X

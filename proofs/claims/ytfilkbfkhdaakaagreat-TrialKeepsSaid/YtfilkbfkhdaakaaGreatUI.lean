/- Contracts of member.End and of the bench's eject. Conditions: what is owed has room. -/
import Derived.Test.YtfilkbfkhdaakaaGreatUH
set_option linter.unusedVariables false
set_option linter.unusedSimpArgs false
set_option maxRecDepth 20000
namespace Go.X
open Go.RowKit Go.Proofs Go.Bl
variable {L : Own} {h : PH} {K : PK}
theorem mend_any (m : MemD) (hk : K (.tuple #[memV (endM m), .int .u64 m.bal]) L h) : Spec Tryz.prog 205 [memV m, .int .i64 4] L h K := by
  refine x_enter Tryz.func205 rfl (rs := [_, _]) rfl rfl mixed (by kernel_rfl) rfl rfl ?_
  simp -dsimp -implicitDefEqProofs (disch := first | with_reducible assumption | omega) [go_sem]
  refine xnew fun b2 n_b2 h_b2 => ?_
  try simp only [Apart] at n_b2
  simp -dsimp -implicitDefEqProofs (disch := first | with_reducible assumption | omega) [go_sem]
  refine xnew fun b4 n_b4 h_b4 => ?_
  try simp only [Apart] at n_b4
  simp -dsimp -implicitDefEqProofs (disch := first | with_reducible assumption | omega) [go_sem]
  exact fin_tail (fin_tail (fin_here hk))
theorem flatG_wr {α : Type} {f : α → List Value} {w : Nat} (hf : ∀ a, (f a).length = w) (l : List α) {i : Nat} (hi : i < l.length) (a' : α) : wr (l.flatMap f) (i * w) (f a') = (l.set i a').flatMap f := by
  have h1 : l.flatMap f = (l.take i).flatMap f ++ (f l[i] ++ (l.drop (i + 1)).flatMap f) := by
    conv => lhs; rw [← List.take_append_drop i l, List.drop_eq_getElem_cons hi]
    rw [List.flatMap_append, List.flatMap_cons]
  have h2 : ((l.take i).flatMap f).length = i * w := by rw [flatG_len hf, List.length_take, Nat.min_eq_left (by omega)]
  rw [wr_eq _ _ _ (by rw [h1]; simp only [List.length_append, h2, hf]; omega), hf]
  rw [List.set_eq_take_append_cons_drop, if_pos hi, List.flatMap_append, List.flatMap_cons]
  rw [h1, ← h2, List.take_left, List.append_assoc]
  congr 2
  rw [← List.drop_drop, List.drop_left]
  rw [← hf l[i], List.drop_left]
theorem call_deep {P : Program} {f : FuncId} {args : List Value} {e sz e2 sz2 : Nat} {o o2 : Option (Nat × Nat)} {xs ys : List Value} {a b c d : Blk} {L : Own} {h : PH} {K : PK} (hs : Spec P f args (oent e sz o xs (a :: b :: c :: oent e2 sz2 o2 ys (d :: L))) h K) : Spec P f args (a :: b :: c :: oent e2 sz2 o2 ys (d :: oent e sz o xs L)) h K := by
  refine Spec.weaken (Drop.perm h ?_) hs
  refine List.Perm.trans (List.Perm.cons _ (List.Perm.cons _ (List.Perm.cons _ ?_))) (oent_perm_app [_, _, _])
  exact (oent_congr o2 ys oent_perm).trans (oent_swap o2 o _ _ _)
theorem act_deep {P : Program} {m : Sem Value} {e sz e2 sz2 : Nat} {o o2 : Option (Nat × Nat)} {xs zs : List Value} {z a b c d : Blk} {L : Own} {h : PH} {K : PK} (hx : xAct P m ([z, a, b, c] ++ oent e2 sz2 o2 zs (oent e sz o xs (d :: L))) h K ⟨⟩) : xAct P m (z :: oent e sz o xs (a :: b :: c :: oent e2 sz2 o2 zs (d :: L))) h K ⟨⟩ := by
  refine xact_weaken (Drop.perm h ?_) hx
  refine List.Perm.cons _ ?_
  exact (oent_perm_app (e := e) (sz := sz) (o := o) (xs := xs) [a, b, c]).symm.trans (List.Perm.append_left [a, b, c] (oent_swap o o2 xs zs (d :: L)))
abbrev setX (u : SV) (x : Value) : SV := ⟨u.p, u.m, u.e, x, u.o, u.d, u.t, u.k, u.r⟩
abbrev setD (u : SV) (d : Value) : SV := ⟨u.p, u.m, u.e, u.x, u.o, d, u.t, u.k, u.r⟩
set_option maxHeartbeats 12800000 in
theorem ejectB_any {s : StD} (u : SV) (ms : List MemD) (hm : ∀ x ∈ ms, MemOk x) (bb : Nat) (om ox oo : Option (Nat × Nat)) (n : Nat) (hn : ms.length = n) (hom : okO om n) (hml : n ≤ 900)
    (xs : List Int) (hox : okO ox xs.length) (hxl : xs.length ≤ 900) (outs : List Value) (on : Nat) (hoo : okO oo on) (hol : outs.length = on) (hon : on ≤ 900) (w : Int) (hw : 0 ≤ w ∧ w ≤ 1000) (hep : 0 ≤ s.ep ∧ s.ep ≤ 1073741824)
    (ds : List DueD) (hd : Recs dueC 3 h u.d ds) (hdo : ∀ x ∈ ds, DueOk x) (hdl : ds.length ≤ 900) (k : Nat) (hk1 : k < n) (how : 0 ≤ (gr zeroM ms k).owner ∧ (gr zeroM ms k).owner ≤ 63)
    (hs : dTot ds + (gr zeroM ms k).bal ≤ 4611686018427387904)
    (hk : ∀ h' r oo', PH.le h h' → Recs dueC 3 h' r (oweL ds (dueOf (s.ep + w) (gr zeroM ms k))) → okO oo' (on + 1) →
      K (.tuple #[]) (⟨bb, 192, stC s (setD (setX (setM u (ovs om n)) (ovs ox (flt xs k).length)) r) ++ [.int .i64 w, ovs oo' (on + 1)], 43⟩ :: oent 3 1 oo' (outs ++ [.int .i64 k]) (oent 94 6 om ((ms.set k (endM (gr zeroM ms k))).flatMap memC) (oent 3 1 ox ((flt xs k).map (.int .i64)) L))) h') :
    Spec Tryz.prog 112 [.pointer (some ⟨bb, 0, none⟩), .int .i64 k] (⟨bb, 192, stC s (setX (setM u (ovs om n)) (ovs ox xs.length)) ++ [.int .i64 w, ovs oo on], 43⟩ :: oent 3 1 oo outs (oent 94 6 om (ms.flatMap memC) (oent 3 1 ox (xs.map (.int .i64)) L))) h K := by
  subst hn
  obtain ⟨bm, cap, rfl⟩ : ∃ bm cap, om = some (bm, cap) := by
    cases om with
    | none => have : ms.length = 0 := hom; omega
    | some p => exact ⟨_, _, rfl⟩
  refine Spec.entr fun ap nd => ?_
  obtain ⟨nbb, ap⟩ := ap
  have ao := ap_here ap
  have ap := Ap.oent ap
  obtain ⟨nbm, ap⟩ := ap
  have ax := ap_here ap
  obtain ⟨n1, nd⟩ := nd
  have obb := apart_here n1
  have n1 := apart_oent n1
  have hbm : bm ≠ bb := n1.1
  have xbb := apart_here n1.2
  have obm : apB oo bm := (nd_here nd).1
  have ndx : Nd (oent 3 1 ox (xs.map (.int .i64)) L) := (nd_here (e := 3) (sz := 1) (o := oo) (xs := outs) nd).2 |> fun _ => by
    cases oo with
    | none => exact nd.2
    | some p => exact nd.2.2
  obtain ⟨m, hmk⟩ : ∃ m, m = gr zeroM ms k := ⟨_, rfl⟩
  have hmo : MemOk m := hm m (by rw [hmk]; exact gr_mem hk1)
  rw [← hmk] at how hs hk
  obtain ⟨vp, vm, ve, vx, vo, vd, vt, vk, vr⟩ := u
  simp only at hd hk nbb ⊢
  have hd0 := hd
  obtain ⟨da, dc, rfl, _⟩ := hd.open
  simp only [List.cons_append, List.nil_append, ovs_some, oent_some] at hk ⊢
  have g0 : ∀ (K : Value → Prop) (t : Tok K), xNth (ms.flatMap memC) (k * 6) K t = K (.int .u64 m.bal) := fun K t => xNth_rec memC_len zeroM _ (m := 0) hk1 (by decide) (by rw [← hmk]; rfl) K t
  have g1 : ∀ (K : Value → Prop) (t : Tok K), xNth (ms.flatMap memC) (k * 6 + 1) K t = K (.int .u64 m.eff) := fun K t => xNth_rec memC_len zeroM _ (m := 1) hk1 (by decide) (by rw [← hmk]; rfl) K t
  have g2 : ∀ (K : Value → Prop) (t : Tok K), xNth (ms.flatMap memC) (k * 6 + 2) K t = K (.int .u64 m.score) := fun K t => xNth_rec memC_len zeroM _ (m := 2) hk1 (by decide) (by rw [← hmk]; rfl) K t
  have g3 : ∀ (K : Value → Prop) (t : Tok K), xNth (ms.flatMap memC) (k * 6 + 3) K t = K (.int .i64 m.streak) := fun K t => xNth_rec memC_len zeroM _ (m := 3) hk1 (by decide) (by rw [← hmk]; rfl) K t
  have g4 : ∀ (K : Value → Prop) (t : Tok K), xNth (ms.flatMap memC) (k * 6 + 4) K t = K (.int .i64 m.owner) := fun K t => xNth_rec memC_len zeroM _ (m := 4) hk1 (by decide) (by rw [← hmk]; rfl) K t
  have g5 : ∀ (K : Value → Prop) (t : Tok K), xNth (ms.flatMap memC) (k * 6 + 5) K t = K (.int .i64 m.status) := fun K t => xNth_rec memC_len zeroM _ (m := 5) hk1 (by decide) (by rw [← hmk]; rfl) K t
  have hfl : (ms.flatMap memC).length = ms.length * 6 := flatG_len memC_len ms
  have hk6 := flat_lt (w := 6) hk1 (show 5 < 6 by decide)
  refine x_enter Tryz.func112 rfl (rs := []) rfl rfl mixed (by kernel_rfl) rfl rfl ?_
  simp -dsimp -implicitDefEqProofs (disch := first | with_reducible assumption | omega) [go_sem]
  refine xnew fun b3 n_b3 h_b3 => ?_
  try simp only [Apart] at n_b3
  simp -dsimp -implicitDefEqProofs (disch := first | with_reducible assumption | omega) [go_sem]
  have n3 := apart_oent n_b3.2
  have o3 : apB oo b3 := apart_here n_b3.2
  have x3 : apB ox b3 := apart_here n3.2
  have nm3 : bm ≠ b3 := n3.1
  have nb3 : bb ≠ b3 := n_b3.1
  have he := endM_ok hmo
  refine xany_cut (.tk 0 (.tk 1 (.tk 2 (.tk 3 (.tkl 4 (.tkl 5 (.tk 6 (.tkl 7 (.or true 8 (.tk 9 (.tk 10 (.tk 11 (.or true 12 (.or false 13 (.tk 14 (.fin)) (.nil)) (.nil))))) (.or true 12 (.or true 8 (.tk 9 (.tk 10 (.tk 11 (.or false 13 (.tk 14 (.fin)) (.nil))))) (.nil)) (.nil))))))))))) (by kernel_rfl) (by kernel_rfl) [(0, .pointer (some ⟨bb, 0, none⟩)), (3, .pointer (some ⟨b3, 0, none⟩))] _ (γ := Nat)
    (fun b4 => h b4 = noC ∧ b3 ≠ b4 ∧ bb ≠ b4 ∧ apB oo b4 ∧ bm ≠ b4 ∧ apB ox b4)
    (fun b4 => [(0, .pointer (some ⟨bb, 0, none⟩)), (3, .pointer (some ⟨b3, 0, none⟩)), (4, .pointer (some ⟨b4, 0, none⟩)), (5, .int .u64 m.bal)])
    (fun b4 => ⟨b4, 94, memC (endM m), 6⟩ :: ⟨b3, 3, [.int .i64 k], 1⟩ :: ⟨bb, 192, stC s ⟨vp, .slice (some ⟨bm, 0, none⟩) ms.length cap, ve, ovs ox xs.length, vo, .slice da ds.length dc, vt, vk, vr⟩ ++ [.int .i64 w, ovs oo on], 43⟩ :: oent 3 1 oo outs (⟨bm, 94, ms.flatMap memC, cap * 6⟩ :: oent 3 1 ox (xs.map (.int .i64)) L))
    (fun _ => h) (by simp [Ent, List.lookup, xEnv]) (Drop.refl _ _) ?_ ?_
  · repeat' first
      | with_reducible refine xpl_or ?_ ?_
      | with_reducible refine xkp (Drop.tail _ _ _) ?_
      | simp -dsimp -implicitDefEqProofs (disch := first | with_reducible assumption | omega) [go_sem, g0, g1, g2, g3, g4, g5, xFind_oent obm]
      | (with_reducible refine xnew fun b4 n_b4 h_b4 => ?_
         simp only [Apart] at n_b4)
      | (with_reducible show xCall Tryz.prog 205 _ _ _ _
         refine mend_any m ?_)
      | with_reducible refine xkp (Drop.refl _ _) ?_
    all_goals
      have n4 := apart_oent n_b4.2.2
      exact ⟨b4, ⟨h_b4, n_b4.1, n_b4.2.1, apart_here n_b4.2.2, n4.1, apart_here n4.2⟩, by simp [Ent, List.lookup, xEnv], Drop.refl _ _⟩
  rintro b4 ⟨h4, n34, nb4, o4, nm4, x4⟩
  simp only [List.cons_append, List.nil_append]
  simp -dsimp -implicitDefEqProofs (disch := first | with_reducible assumption | omega) [go_sem]
  refine xanyl (.tk 0 (.tk 1 (.tk 2 (.tk 3 (.tkl 4 (.tkl 5 (.tkl 6 (.tk 7 (.or false 8 (.fin) (.nil)))))))))) (by kernel_rfl) (by kernel_rfl) [_, _, _] (drop_left [_, _, _] _ _) ?_
  repeat' first
    | with_reducible refine xpl_or ?_ ?_
    | with_reducible refine xkp (drop_left [_, _, _] _ _) ?_
    | simp -dsimp -implicitDefEqProofs (disch := first | with_reducible assumption | omega) [go_sem, xSet_oent obm, memC]
  have hsum : (ms.map fun _ => 6).sum = ms.length * 6 := by
    have : (ms.map fun a => (memC a).length).sum = ms.length * 6 := by rw [← List.length_flatMap, hfl]
    exact this
  refine ⟨by omega, ?_⟩
  have hset : ((((((ms.flatMap memC).set (k * 6) (Value.int .u64 (endM m).bal)).set (k * 6 + 1) (.int .u64 (endM m).eff)).set (k * 6 + 1 + 1) (.int .u64 (endM m).score)).set (k * 6 + 1 + 1 + 1) (.int .i64 (endM m).streak)).set (k * 6 + 1 + 1 + 1 + 1) (.int .i64 (endM m).owner)).set (k * 6 + 1 + 1 + 1 + 1 + 1) (.int .i64 (endM m).status) = (ms.set k (endM m)).flatMap memC := flatG_wr memC_len ms hk1 (endM m)
  rw [hset]
  obtain ⟨MC, hMC⟩ : ∃ MC, MC = (ms.set k (endM m)).flatMap memC := ⟨_, rfl⟩
  rw [← hMC] at hk ⊢
  refine xanyl (.tk 0 (.tk 1 (.tk 2 (.tk 3 (.tk 5 (.tk 7 (.tk 8 (.tk 9 (.tk 10 (.tk 12 (.tk 13 (.tk 14 (.tk 18 (.tkl 4 (.tkl 6 (.tkl 11 (.tkl 15 (.tk 16 (.or true 17 (.tk 19 (.or true 20 (.tk 21 (.tk 22 (.tk 23 (.tk 24 (.tk 25 (.fin)))))) (.nil))) (.nil)))))))))))))))))))) (by kernel_rfl) (by kernel_rfl) [_, _, _] (drop_left [_, _, _] _ _) ?_
  repeat' first
    | with_reducible refine xpl_or ?_ ?_
    | with_reducible refine xkp (drop_left [_, _, _] _ _) ?_
    | simp -dsimp -implicitDefEqProofs (disch := first | with_reducible assumption | omega) [go_sem]
  have ub := hmo.u m.bal (by simp)
  have ewo : (endM m).owner = m.owner := rfl
  rw [show min (s.ep + w) 2147483647 = s.ep + w by omega]
  refine Spec.apn (owe_any (d := dueOf (s.ep + w) m) _ hd0 hdo hdl how ⟨by show 0 ≤ s.ep + w; omega, by show s.ep + w ≤ _; omega⟩ ub.1 hs fun h1 r le1 i1 ap nd => ?_)
  obtain ⟨ra, rc, rfl, _⟩ := i1.open
  first
  | refine xkp ((drop_left [_, _, _] _ _).trans (Drop.forget le1)) ?_
  | skip
  obtain ⟨p4, p3, pb, ap⟩ := ap
  simp only at p4 p3 pb
  simp -dsimp -implicitDefEqProofs (disch := first | with_reducible assumption | omega) [go_sem]
  obtain ⟨yo, yc, eyo, _⟩ := ovs_open hox
  refine call_deep (delf_any ox hox (by omega) k b3 (List.mem_cons_of_mem _ List.mem_cons_self) ?_)
  have hfk := flt_len xs k
  obtain ⟨ys, hys⟩ : ∃ ys, ys = flt xs k := ⟨_, rfl⟩
  rw [← hys] at hk hfk ⊢
  have hoy : okO ox ys.length := by
    cases ox with
    | none =>
      have h0 : xs.length = 0 := hox
      show ys.length = 0
      omega
    | some p => exact ⟨Nat.le_trans hfk hox.1, hox.2⟩
  simp -dsimp -implicitDefEqProofs (disch := first | with_reducible assumption | omega) [go_sem, xSet_oent xbb, xFind_oent xbb, xSet_oent x3, xFind_oent x3, xSet_oent x4, xFind_oent x4]
  refine xanyl (.tk 0 (.tk 1 (.tk 2 (.tk 3 (.tkl 4 (.tkl 5 (.or true 6 (.or true 7 (.tk 8 (.tk 9 (.or false 10 (.fin) (.nil)))) (.nil)) (.nil)))))))) (by kernel_rfl) (by kernel_rfl) [_, _, _] ((Drop.oent _ _ _ _ _ _).trans (drop_left [_, _, _] _ _)) ?_
  simp -dsimp -implicitDefEqProofs (disch := first | with_reducible assumption | omega) [go_sem, xSet_oent xbb, xFind_oent xbb, xSet_oent x3, xFind_oent x3, xSet_oent x4, xFind_oent x4]
  refine xnew fun b7 n_b7 h_b7 => ?_
  try simp only [Apart] at n_b7
  have n7 := apart_oent n_b7
  have nb7 : bb ≠ b7 := n7.2.2.1
  simp -dsimp -implicitDefEqProofs (disch := first | with_reducible assumption | omega) [go_sem, xSet_oent xbb, xFind_oent xbb, xSet_oent x3, xFind_oent x3, xSet_oent x4, xFind_oent x4]
  first
  | refine xkp ((Drop.tail _ _ _).trans ((Drop.oent _ _ _ _ _ _).trans (drop_left [_, _, _] _ _))) ?_
  | skip
  simp -dsimp -implicitDefEqProofs (disch := first | with_reducible assumption | omega) [go_sem, xSet_oent xbb, xFind_oent xbb, xSet_oent x3, xFind_oent x3, xSet_oent x4, xFind_oent x4]
  refine act_deep (xappend (t := 27) (e := 3) (sz := 1) (bytes := 8) (z := [.int .i64 0]) (by kernel_rfl) tI_3 rfl rfl rfl rfl (by decide) [_, _, _, _] _ oo on outs hoo (by omega) (Src.own List.mem_cons_self) (m := 1) (news := [.int .i64 k]) rfl (fun u hu => by simp at hu; subst hu; rfl) (by simp [maxLen]; omega) (by omega) ?_)
  intro o' j1 j2 j3
  simp only [List.cons_append, List.nil_append]
  first
  | refine xkp ((Drop.tail _ _ _).trans (drop_left [_, _, _] _ _)) ?_
  | skip
  simp -dsimp -implicitDefEqProofs (disch := first | with_reducible assumption | omega) [go_sem]
  refine ⟨_, _, (Drop.tail _ _ _).trans ((Drop.tail _ _ _).trans ((Drop.tail _ _ _).trans (Drop.perm _ (List.Perm.cons _ (oent_congr o' _ oent_perm.symm))))), ?_⟩
  exact hk h1 _ o' le1 i1 j1
end Go.X

/- Lemmas and contracts for a statement about the given program. Conditions: as each says. -/
import Derived.Test.YtkmojeioedjfkaaGreatQ16
set_option linter.unusedVariables false
set_option linter.unusedSimpArgs false
set_option maxHeartbeats 12800000
set_option maxRecDepth 20000
namespace Go.X
open Go.RowKit Go.Proofs Go.Bl
variable {L : Own} {h : PH} {K : PK}
def ElC (h : PH) (a : Addr) (cs : List Value) : Prop := ∀ i v, cs[i]? = some v → elemCell h (some a) i = some v
theorem ElC.up {h h' : PH} (le : PH.le h h') {a : Addr} {cs : List Value} (he : ElC h a cs) : ElC h' a cs := fun i v hi => elemCell_up le (he i v hi)
theorem ElC.rd {a : Addr} {cs : List Value} (he : ElC h a cs) {i : Nat} {v : Value} (hi : cs[i]? = some v) (L : Own) (K : Value → Prop) (t : Tok K) : xCell L h (some (a.add i)) 0 K t = K v :=
 xCell_elem (a := some a) (i := i) (j := 0) (he i v hi) K
theorem ElC.rd0 {a : Addr} {cs : List Value} (he : ElC h a cs) {v : Value} (hi : cs[0]? = some v) (L : Own) (K : Value → Prop) (t : Tok K) : xCell L h (some a) 0 K t = K v := by
 have := xCell_elem (L := L) (a := some a) (i := 0) (j := 0) (he 0 v hi) K
 rwa [show elem (some a) 0 = some a by simp [elem, Addr.add]] at this
theorem xAddO_any (a : Addr) (o : Nat) (K : Value → Prop) (t : Tok K) : xAddO (.pointer (some a)) o K t = K (.pointer (some (a.add o))) := by simp [xAddO]
theorem xAddO_at (a : Addr) (i o : Nat) (K : Value → Prop) (t : Tok K) : xAddO (.pointer (some (a.add i))) o K t = K (.pointer (some (a.add (i + o)))) := by simp [xAddO, add_add]
theorem Ap.mem' {h : PH} : ∀ {L : Own}, Ap L h → ∀ e ∈ L, h e.b = noC
 | [], _, e, he => by cases he
 | x :: L, ha, e, he => by
  rcases List.mem_cons.1 he with rfl | he
  ·exact ha.1
  ·exact Ap.mem' ha.2 e he
abbrev penB (b bw : Nat) : Blk := ⟨b, 177, [penW bw], 1⟩
def memEnc (m : MemD) : List Int := formN m.bal.toNat ++ formN m.eff.toNat ++ formN m.score.toNat ++ formN m.streak.toNat ++ formN m.owner.toNat ++ formN m.status.toNat
theorem cl2_w {bw b2 : Nat} {o : Option (Nat × Nat)} {B : List Int} (A : Own) (hb : penB b2 bw ∈ A) (a : Addr) (m : MemD) (he : ElC h a (memC m)) (hm : MemOk m) (hp : 0 ≤ m.streak ∧ 0 ≤ m.owner ∧ 0 ≤ m.status) (ho : okO o B.length) (hl : B.length ≤ 100000)
  (hk : ∀ h' o' B', PH.le h h' → B' = B ++ memEnc m → okO o' B'.length → B'.length ≤ B.length + 60 → K (.tuple #[]) (iwO bw o' B' A L) h') :
  Spec Tryz.prog 95 [.pointer (some a), .pointer (some ⟨b2, 0, none⟩)] (iwO bw o B A L) h K := by
 have u0 := hm.u m.bal (by simp)
 have u1 := hm.u m.eff (by simp)
 have u2 := hm.u m.score (by simp)
 have u3 : 0 ≤ m.streak ∧ m.streak ≤ 9223372036854775807 := ⟨hp.1, (hm.n m.streak (by simp)).2⟩
 have u4 : 0 ≤ m.owner ∧ m.owner ≤ 9223372036854775807 := ⟨hp.2.1, (hm.n m.owner (by simp)).2⟩
 have u5 : 0 ≤ m.status ∧ m.status ≤ 9223372036854775807 := ⟨hp.2.2, (hm.n m.status (by simp)).2⟩
 have hd : ∀ h, RdW bw A L h [penB b2 bw] := fun h => RdW.mem L h hb
 have hmem : ∀ o B, penB b2 bw ∈ iwO bw o B A L := fun o B => List.mem_cons_of_mem _ (List.mem_append_left _ hb)
 refine x_enterA Tryz.func95 rfl (rs := []) rfl rfl mixed (by kernel_rfl) rfl rfl fun ap nd => ?_
 have hb2 : h b2 = noC := Ap.mem' (L := iwO bw o B A L) ap _ (hmem o B)
 clear ap nd
 simp -dsimp -implicitDefEqProofs (disch := first|with_reducible assumption|omega) [go_sem]
 refine xanyl (.tk 1 (.tk 2 (.tk 3 (.tk 4 (.tkl 0 (.tk 5 (.tk 6 (.tk 7 (.or true 8 (.fin) (.nil)))))))))) (by kernel_rfl) (by kernel_rfl) [penB b2 bw] (hd _ _ _ _ (PH.le_refl _)) ?_
 simp -dsimp -implicitDefEqProofs (disch := first|with_reducible assumption|omega) [go_sem, xAddO_any a, xAddO_at a, pnW_num bw]
 refine xcallI (penW_num bw) ?_
 refine Spec.apn (inum_w A [] (RdW.nil _ _ _ _) a m.bal (he.rd0 rfl _) (u0).1 (u0).2 ho (by omega) fun h1 o1 B1 le1 e1 k1 l1 ap nd => ?_)
 have hb3 : h1 b2 = noC := Ap.mem' (L := iwO bw o1 B1 A L) ap _ (hmem _ _)
 clear ap nd
 have he1 := he.up le1
 refine xkp (hd _ _ _ _ le1) ?_
 simp -dsimp -implicitDefEqProofs (disch := first|with_reducible assumption|omega) [go_sem]
 refine xanyl (.tk 1 (.tk 2 (.tk 3 (.tk 4 (.tkl 0 (.tk 5 (.tk 6 (.tk 7 (.or true 8 (.fin) (.nil)))))))))) (by kernel_rfl) (by kernel_rfl) [penB b2 bw] (hd _ _ _ _ (PH.le_refl _)) ?_
 simp -dsimp -implicitDefEqProofs (disch := first|with_reducible assumption|omega) [go_sem, xAddO_any a, xAddO_at a, pnW_num bw]
 refine xcallI (penW_num bw) ?_
 refine Spec.apn (inum_w A [] (RdW.nil _ _ _ _) (a.add 1) m.eff (he1.rd (i := 1) rfl _) (u1).1 (u1).2 k1 (by omega) fun h2 o2 B2 le2 e2 k2 l2 ap nd => ?_)
 have hb4 : h2 b2 = noC := Ap.mem' (L := iwO bw o2 B2 A L) ap _ (hmem _ _)
 clear ap nd
 have he2 := he1.up le2
 refine xkp (hd _ _ _ _ le2) ?_
 simp -dsimp -implicitDefEqProofs (disch := first|with_reducible assumption|omega) [go_sem]
 refine xanyl (.tk 1 (.tk 2 (.tk 3 (.tk 4 (.tkl 0 (.tk 5 (.tk 6 (.tk 7 (.or true 8 (.fin) (.nil)))))))))) (by kernel_rfl) (by kernel_rfl) [penB b2 bw] (hd _ _ _ _ (PH.le_refl _)) ?_
 simp -dsimp -implicitDefEqProofs (disch := first|with_reducible assumption|omega) [go_sem, xAddO_any a, xAddO_at a, pnW_num bw]
 refine xcallI (penW_num bw) ?_
 refine Spec.apn (inum_w A [] (RdW.nil _ _ _ _) (a.add 2) m.score (he2.rd (i := 2) rfl _) (u2).1 (u2).2 k2 (by omega) fun h3 o3 B3 le3 e3 k3 l3 ap nd => ?_)
 have hb5 : h3 b2 = noC := Ap.mem' (L := iwO bw o3 B3 A L) ap _ (hmem _ _)
 clear ap nd
 have he3 := he2.up le3
 refine xkp (hd _ _ _ _ le3) ?_
 simp -dsimp -implicitDefEqProofs (disch := first|with_reducible assumption|omega) [go_sem]
 refine xanyl (.tk 1 (.tk 2 (.tk 3 (.tk 4 (.tkl 0 (.tk 5 (.tk 6 (.tk 7 (.or true 8 (.fin) (.nil)))))))))) (by kernel_rfl) (by kernel_rfl) [penB b2 bw] (hd _ _ _ _ (PH.le_refl _)) ?_
 simp -dsimp -implicitDefEqProofs (disch := first|with_reducible assumption|omega) [go_sem, xAddO_any a, xAddO_at a, pnW_int bw]
 refine xcallI (penW_int bw) ?_
 refine Spec.apn (iint_w A [] (RdW.nil _ _ _ _) (a.add 3) m.streak (he3.rd (i := 3) rfl _) (u3).1 (u3).2 k3 (by omega) fun h4 o4 B4 le4 e4 k4 l4 ap nd => ?_)
 have hb6 : h4 b2 = noC := Ap.mem' (L := iwO bw o4 B4 A L) ap _ (hmem _ _)
 clear ap nd
 have he4 := he3.up le4
 refine xkp (hd _ _ _ _ le4) ?_
 simp -dsimp -implicitDefEqProofs (disch := first|with_reducible assumption|omega) [go_sem]
 refine xanyl (.tk 1 (.tk 2 (.tk 3 (.tkl 0 (.tk 4 (.tk 5 (.tk 6 (.or true 7 (.fin) (.nil))))))))) (by kernel_rfl) (by kernel_rfl) [penB b2 bw] (hd _ _ _ _ (PH.le_refl _)) ?_
 simp -dsimp -implicitDefEqProofs (disch := first|with_reducible assumption|omega) [go_sem, xAddO_any a, xAddO_at a, pnW_int bw]
 refine xcallI (penW_int bw) ?_
 refine Spec.apn (iint_w A [] (RdW.nil _ _ _ _) (a.add 4) m.owner (he4.rd (i := 4) rfl _) (u4).1 (u4).2 k4 (by omega) fun h5 o5 B5 le5 e5 k5 l5 ap nd => ?_)
 have hb7 : h5 b2 = noC := Ap.mem' (L := iwO bw o5 B5 A L) ap _ (hmem _ _)
 clear ap nd
 have he5 := he4.up le5
 refine xkp (hd _ _ _ _ le5) ?_
 simp -dsimp -implicitDefEqProofs (disch := first|with_reducible assumption|omega) [go_sem]
 refine xanyl (.tk 1 (.tk 2 (.tk 3 (.tkl 0 (.tk 4 (.tk 5 (.tk 6 (.or true 7 (.fin) (.nil))))))))) (by kernel_rfl) (by kernel_rfl) [penB b2 bw] (hd _ _ _ _ (PH.le_refl _)) ?_
 simp -dsimp -implicitDefEqProofs (disch := first|with_reducible assumption|omega) [go_sem, xAddO_any a, xAddO_at a, pnW_int bw]
 refine xcallI (penW_int bw) ?_
 refine Spec.apn (iint_w A [] (RdW.nil _ _ _ _) (a.add 5) m.status (he5.rd (i := 5) rfl _) (u5).1 (u5).2 k5 (by omega) fun h6 o6 B6 le6 e6 k6 l6 ap nd => ?_)
 have hb8 : h6 b2 = noC := Ap.mem' (L := iwO bw o6 B6 A L) ap _ (hmem _ _)
 clear ap nd
 have he6 := he5.up le6
 refine xkp (hd _ _ _ _ le6) ?_
 first | simp -dsimp -implicitDefEqProofs (disch := first|with_reducible assumption|omega) [go_sem] | skip
 refine fin_here (hk h6 o6 B6 (((((le1.trans le2).trans le3).trans le4).trans le5).trans le6) ?_ k6 (by omega))
 rw [e6, e5, e4, e3, e2, e1]
 simp [memEnc, List.append_assoc]
def depEnc (d : DepD) : List Int := formN d.acct.toNat ++ formN d.mem.toNat ++ formN d.amt.toNat ++ formN d.new.toNat
theorem cl5_w {bw b2 : Nat} {o : Option (Nat × Nat)} {B : List Int} (A : Own) (hb : penB b2 bw ∈ A) (a : Addr) (d : DepD) (he : ElC h a (depC d)) (hm : DepOk d) (hp : 0 ≤ d.acct ∧ 0 ≤ d.mem) (ho : okO o B.length) (hl : B.length ≤ 100000)
  (hk : ∀ h' o' B', PH.le h h' → B' = B ++ depEnc d → okO o' B'.length → B'.length ≤ B.length + 40 → K (.tuple #[]) (iwO bw o' B' A L) h') :
  Spec Tryz.prog 100 [.pointer (some a), .pointer (some ⟨b2, 0, none⟩)] (iwO bw o B A L) h K := by
 have u0 : 0 ≤ d.acct ∧ d.acct ≤ 9223372036854775807 := ⟨hp.1, (hm.n d.acct (by simp)).2⟩
 have u1 : 0 ≤ d.mem ∧ d.mem ≤ 9223372036854775807 := ⟨hp.2, (hm.n d.mem (by simp)).2⟩
 have u2 := hm.a
 have hd : ∀ h, RdW bw A L h [penB b2 bw] := fun h => RdW.mem L h hb
 have hmem : ∀ o B, penB b2 bw ∈ iwO bw o B A L := fun o B => List.mem_cons_of_mem _ (List.mem_append_left _ hb)
 refine x_enterA Tryz.func100 rfl (rs := []) rfl rfl mixed (by kernel_rfl) rfl rfl fun ap nd => ?_
 have hb2 : h b2 = noC := Ap.mem' (L := iwO bw o B A L) ap _ (hmem o B)
 clear ap nd
 simp -dsimp -implicitDefEqProofs (disch := first|with_reducible assumption|omega) [go_sem]
 refine xanyl (.tk 1 (.tk 2 (.tk 3 (.tkl 0 (.tk 4 (.tk 5 (.tk 6 (.or true 7 (.fin) (.nil))))))))) (by kernel_rfl) (by kernel_rfl) [penB b2 bw] (hd _ _ _ _ (PH.le_refl _)) ?_
 simp -dsimp -implicitDefEqProofs (disch := first|with_reducible assumption|omega) [go_sem, xAddO_any a, xAddO_at a, pnW_int bw]
 refine xcallI (penW_int bw) ?_
 refine Spec.apn (iint_w A [] (RdW.nil _ _ _ _) a d.acct (he.rd0 rfl _) (u0).1 (u0).2 ho (by omega) fun h1 o1 B1 le1 e1 k1 l1 ap nd => ?_)
 have hb3 : h1 b2 = noC := Ap.mem' (L := iwO bw o1 B1 A L) ap _ (hmem _ _)
 clear ap nd
 have he1 := he.up le1
 refine xkp (hd _ _ _ _ le1) ?_
 simp -dsimp -implicitDefEqProofs (disch := first|with_reducible assumption|omega) [go_sem]
 refine xanyl (.tk 1 (.tk 2 (.tk 3 (.tkl 0 (.tk 4 (.tk 5 (.tk 6 (.or true 7 (.fin) (.nil))))))))) (by kernel_rfl) (by kernel_rfl) [penB b2 bw] (hd _ _ _ _ (PH.le_refl _)) ?_
 simp -dsimp -implicitDefEqProofs (disch := first|with_reducible assumption|omega) [go_sem, xAddO_any a, xAddO_at a, pnW_int bw]
 refine xcallI (penW_int bw) ?_
 refine Spec.apn (iint_w A [] (RdW.nil _ _ _ _) (a.add 1) d.mem (he1.rd (i := 1) rfl _) (u1).1 (u1).2 k1 (by omega) fun h2 o2 B2 le2 e2 k2 l2 ap nd => ?_)
 have hb4 : h2 b2 = noC := Ap.mem' (L := iwO bw o2 B2 A L) ap _ (hmem _ _)
 clear ap nd
 have he2 := he1.up le2
 refine xkp (hd _ _ _ _ le2) ?_
 simp -dsimp -implicitDefEqProofs (disch := first|with_reducible assumption|omega) [go_sem]
 refine xanyl (.tk 1 (.tk 2 (.tk 3 (.tkl 0 (.tk 4 (.tk 5 (.tk 6 (.or true 7 (.fin) (.nil))))))))) (by kernel_rfl) (by kernel_rfl) [penB b2 bw] (hd _ _ _ _ (PH.le_refl _)) ?_
 simp -dsimp -implicitDefEqProofs (disch := first|with_reducible assumption|omega) [go_sem, xAddO_any a, xAddO_at a, pnW_num bw]
 refine xcallI (penW_num bw) ?_
 refine Spec.apn (inum_w A [] (RdW.nil _ _ _ _) (a.add 2) d.amt (he2.rd (i := 2) rfl _) (u2).1 (u2).2 k2 (by omega) fun h3 o3 B3 le3 e3 k3 l3 ap nd => ?_)
 have hb5 : h3 b2 = noC := Ap.mem' (L := iwO bw o3 B3 A L) ap _ (hmem _ _)
 clear ap nd
 have he3 := he2.up le3
 refine xkp (hd _ _ _ _ le3) ?_
 simp -dsimp -implicitDefEqProofs (disch := first|with_reducible assumption|omega) [go_sem]
 refine xanyl (.tk 1 (.tk 2 (.tk 3 (.tkl 0 (.tk 4 (.tk 5 (.tk 6 (.or true 7 (.fin) (.nil))))))))) (by kernel_rfl) (by kernel_rfl) [penB b2 bw] (hd _ _ _ _ (PH.le_refl _)) ?_
 simp -dsimp -implicitDefEqProofs (disch := first|with_reducible assumption|omega) [go_sem, xAddO_any a, xAddO_at a, pnW_flag bw]
 refine xcallI (penW_flag bw) ?_
 refine Spec.apn (iflag_w A [] (RdW.nil _ _ _ _) (a.add 3) d.new (he3.rd (i := 3) rfl _) k3 (by omega) fun h4 o4 B4 le4 e4 k4 l4 ap nd => ?_)
 have hb6 : h4 b2 = noC := Ap.mem' (L := iwO bw o4 B4 A L) ap _ (hmem _ _)
 clear ap nd
 have he4 := he3.up le4
 refine xkp (hd _ _ _ _ le4) ?_
 first | simp -dsimp -implicitDefEqProofs (disch := first|with_reducible assumption|omega) [go_sem] | skip
 refine fin_here (hk h4 o4 B4 (((le1.trans le2).trans le3).trans le4) ?_ k4 (by omega))
 rw [e4, e3, e2, e1]
 simp [depEnc, List.append_assoc]
def dueEnc (d : DueD) : List Int := formN d.acct.toNat ++ formN d.at'.toNat ++ formN d.amt.toNat
theorem cl6_w {bw b2 : Nat} {o : Option (Nat × Nat)} {B : List Int} (A : Own) (hb : penB b2 bw ∈ A) (a : Addr) (d : DueD) (he : ElC h a (dueC d)) (hm : DueOk d) (hp : 0 ≤ d.acct ∧ 0 ≤ d.at') (ho : okO o B.length) (hl : B.length ≤ 100000)
  (hk : ∀ h' o' B', PH.le h h' → B' = B ++ dueEnc d → okO o' B'.length → B'.length ≤ B.length + 30 → K (.tuple #[]) (iwO bw o' B' A L) h') :
  Spec Tryz.prog 102 [.pointer (some a), .pointer (some ⟨b2, 0, none⟩)] (iwO bw o B A L) h K := by
 have u0 : 0 ≤ d.acct ∧ d.acct ≤ 9223372036854775807 := ⟨hp.1, (hm.n d.acct (by simp)).2⟩
 have u1 : 0 ≤ d.at' ∧ d.at' ≤ 9223372036854775807 := ⟨hp.2, (hm.n d.at' (by simp)).2⟩
 have u2 := hm.a
 have hd : ∀ h, RdW bw A L h [penB b2 bw] := fun h => RdW.mem L h hb
 have hmem : ∀ o B, penB b2 bw ∈ iwO bw o B A L := fun o B => List.mem_cons_of_mem _ (List.mem_append_left _ hb)
 refine x_enterA Tryz.func102 rfl (rs := []) rfl rfl mixed (by kernel_rfl) rfl rfl fun ap nd => ?_
 have hb2 : h b2 = noC := Ap.mem' (L := iwO bw o B A L) ap _ (hmem o B)
 clear ap nd
 simp -dsimp -implicitDefEqProofs (disch := first|with_reducible assumption|omega) [go_sem]
 refine xanyl (.tk 1 (.tk 2 (.tk 3 (.tkl 0 (.tk 4 (.tk 5 (.tk 6 (.or true 7 (.fin) (.nil))))))))) (by kernel_rfl) (by kernel_rfl) [penB b2 bw] (hd _ _ _ _ (PH.le_refl _)) ?_
 simp -dsimp -implicitDefEqProofs (disch := first|with_reducible assumption|omega) [go_sem, xAddO_any a, xAddO_at a, pnW_int bw]
 refine xcallI (penW_int bw) ?_
 refine Spec.apn (iint_w A [] (RdW.nil _ _ _ _) a d.acct (he.rd0 rfl _) (u0).1 (u0).2 ho (by omega) fun h1 o1 B1 le1 e1 k1 l1 ap nd => ?_)
 have hb3 : h1 b2 = noC := Ap.mem' (L := iwO bw o1 B1 A L) ap _ (hmem _ _)
 clear ap nd
 have he1 := he.up le1
 refine xkp (hd _ _ _ _ le1) ?_
 simp -dsimp -implicitDefEqProofs (disch := first|with_reducible assumption|omega) [go_sem]
 refine xanyl (.tk 1 (.tk 2 (.tk 3 (.tkl 0 (.tk 4 (.tk 5 (.tk 6 (.or true 7 (.fin) (.nil))))))))) (by kernel_rfl) (by kernel_rfl) [penB b2 bw] (hd _ _ _ _ (PH.le_refl _)) ?_
 simp -dsimp -implicitDefEqProofs (disch := first|with_reducible assumption|omega) [go_sem, xAddO_any a, xAddO_at a, pnW_int bw]
 refine xcallI (penW_int bw) ?_
 refine Spec.apn (iint_w A [] (RdW.nil _ _ _ _) (a.add 1) d.at' (he1.rd (i := 1) rfl _) (u1).1 (u1).2 k1 (by omega) fun h2 o2 B2 le2 e2 k2 l2 ap nd => ?_)
 have hb4 : h2 b2 = noC := Ap.mem' (L := iwO bw o2 B2 A L) ap _ (hmem _ _)
 clear ap nd
 have he2 := he1.up le2
 refine xkp (hd _ _ _ _ le2) ?_
 simp -dsimp -implicitDefEqProofs (disch := first|with_reducible assumption|omega) [go_sem]
 refine xanyl (.tk 1 (.tk 2 (.tk 3 (.tkl 0 (.tk 4 (.tk 5 (.tk 6 (.or true 7 (.fin) (.nil))))))))) (by kernel_rfl) (by kernel_rfl) [penB b2 bw] (hd _ _ _ _ (PH.le_refl _)) ?_
 simp -dsimp -implicitDefEqProofs (disch := first|with_reducible assumption|omega) [go_sem, xAddO_any a, xAddO_at a, pnW_num bw]
 refine xcallI (penW_num bw) ?_
 refine Spec.apn (inum_w A [] (RdW.nil _ _ _ _) (a.add 2) d.amt (he2.rd (i := 2) rfl _) (u2).1 (u2).2 k2 (by omega) fun h3 o3 B3 le3 e3 k3 l3 ap nd => ?_)
 have hb5 : h3 b2 = noC := Ap.mem' (L := iwO bw o3 B3 A L) ap _ (hmem _ _)
 clear ap nd
 have he3 := he2.up le3
 refine xkp (hd _ _ _ _ le3) ?_
 first | simp -dsimp -implicitDefEqProofs (disch := first|with_reducible assumption|omega) [go_sem] | skip
 refine fin_here (hk h3 o3 B3 ((le1.trans le2).trans le3) ?_ k3 (by omega))
 rw [e3, e2, e1]
 simp [dueEnc, List.append_assoc]
theorem elemCell_add (q : Addr) (i j : Nat) : elemCell h (some (q.add i)) j = elemCell h (some q) (i + j) := by simp only [elemCell, add_add]
theorem findOwn_mem {b ty cp i : Nat} {cs : List Value} (hty : ty ≠ 4294967295) : ∀ {L : Own}, Nd L → (⟨b, ty, cs, cp⟩ : Blk) ∈ L → findOwn L b i = cs[i]?
 | [], _, hx => by cases hx
 | e :: L, hn, hx => by
  rw [findOwn]
  rcases List.mem_cons.1 hx with e1 | hx1
  ·subst e1
   rw [if_pos rfl, if_neg hty]
  ·have hne := of_apart hn.1 _ hx1
   rw [if_neg (Ne.symm hne)]
   exact findOwn_mem hty hn.2 hx1
theorem xFind_mem {b ty cp i : Nat} {cs : List Value} {v : Value} (hty : ty ≠ 4294967295) {L : Own} (nd : Nd L) (hx : (⟨b, ty, cs, cp⟩ : Blk) ∈ L) (hv : cs[i]? = some v) (K : Value → Prop) (t : Tok K) : xFind L b i K t = K v := by
 simp [xFind, findOwn_mem hty nd hx, hv]
theorem recs_el {α : Type} {f : α → List Value} {w : Nat} {z : α} {q : Addr} {n c : Nat} {l : List α} (hd : Recs f w h (.slice (some q) n c) l) {k : Nat} (hk : k < l.length) : ElC h (q.add (k * w)) (f (gr z l k)) := fun i v hi => by
 have hi2 : i < w := by
  have := (List.getElem?_eq_some_iff.1 hi).1
  rwa [hd.len] at this
 rw [elemCell_add, hd.cell (z := z) hk hi2, hi]
theorem gr_mem' {α : Type} {z : α} {l : List α} {k : Nat} (hk : k < l.length) : gr z l k ∈ l := by
 rw [gr_lt hk]; exact List.getElem_mem hk
theorem lmem_w {bw b1 b2 ty cp : Nat} {cs : List Value} {o : Option (Nat × Nat)} {B : List Int} (A : Own) (hb : penB b2 bw ∈ A) (hx : (⟨b1, ty, cs, cp⟩ : Blk) ∈ A) (hty : ty ≠ 4294967295) (off : Nat) (l : List MemD) (ma : Option Addr) (mc : Nat) (hn : cs[off]? = some (.slice ma l.length mc)) (hR : Recs memC 6 h (.slice ma l.length mc) l) (hM : ∀ x ∈ l, MemOk x ∧ 0 ≤ x.streak ∧ 0 ≤ x.owner ∧ 0 ≤ x.status) (hll : l.length ≤ 2000) (ho : okO o B.length) (hl : B.length + 10 + 60 * l.length ≤ 100000)
  (hk : ∀ h' o' B', PH.le h h' → B' = B ++ (formN l.length ++ l.flatMap memEnc) → okO o' B'.length → B'.length ≤ B.length + 10 + 60 * l.length → K (.tuple #[]) (iwO bw o' B' A L) h') :
  Spec Tryz.prog 94 [penW bw, .pointer (some ⟨b1, off, none⟩), .func (.func 95) #[] #[.pointer (some ⟨b2, 0, none⟩)]] (iwO bw o B A L) h K := by
 have hd : ∀ h, RdW bw A L h [⟨b1, ty, cs, cp⟩] := fun h => RdW.mem L h hx
 have hmem : ∀ o B, (⟨b1, ty, cs, cp⟩ : Blk) ∈ iwO bw o B A L := fun o B => List.mem_cons_of_mem _ (List.mem_append_left _ hx)
 refine x_enterA Tryz.func94 rfl (rs := []) rfl rfl mixed (by kernel_rfl) rfl rfl fun ap nd => ?_
 have hb1 : h b1 = noC := Ap.mem' (L := iwO bw o B A L) ap _ (hmem o B)
 clear ap nd
 simp -dsimp -implicitDefEqProofs (disch := first|with_reducible assumption|omega) [go_sem]
 refine xanyl (.tk 0 (.tk 1 (.tk 2 (.tk 5 (.tk 6 (.tk 7 (.tkl 3 (.tk 4 (.or true 8 (.tk 9 (.fin)) (.nil)))))))))) (by kernel_rfl) (by kernel_rfl) [⟨b1, ty, cs, cp⟩] (hd _ _ _ _ (PH.le_refl _)) ?_
 simp -dsimp -implicitDefEqProofs (disch := first|with_reducible assumption|omega) [go_sem, xNth_of hn, pnW_count bw]
 refine xcallI (penW_count bw) ?_
 refine Spec.apn (icount_w A l.length (by omega) ho (by omega) fun h1 o1 B1 le1 e1 k1 l1 ap nd => ?_)
 refine xkp (hd _ _ _ _ le1) ?_
 simp -dsimp -implicitDefEqProofs (disch := first|with_reducible assumption|omega) [go_sem]
 refine xloop (γ := Nat × PH × Option (Nat × Nat) × List Int) (0, h1, o1, B1)
  (fun x => x.1 ≤ l.length ∧ PH.le h1 x.2.1 ∧ okO x.2.2.1 x.2.2.2.length ∧ x.2.2.2 = B1 ++ (l.take x.1).flatMap memEnc ∧ x.2.2.2.length ≤ B.length + 10 + 60 * x.1 ∧ Ap (iwO bw x.2.2.1 x.2.2.2 A L) x.2.1 ∧ Nd (iwO bw x.2.2.1 x.2.2.2 A L))
  (fun x => [(21, .int .i64 x.1), (20, .int .i64 l.length), (0, penW bw), (1, .pointer (some ⟨b1, off, none⟩)), (2, .func (.func 95) #[] #[.pointer (some ⟨b2, 0, none⟩)])])
  (fun x => iwO bw x.2.2.1 x.2.2.2 A L) (fun x => x.2.1) (fun x => l.length - x.1) ?_ ?_ ?_ ?_
 ·exact ⟨Nat.zero_le _, PH.le_refl _, k1, by simp, by simpa using l1, ap, nd⟩
 ·simp [Ent, List.lookup, xEnv]
 ·exact Drop.refl _ _
 clear ap nd
 rintro ⟨k, hh, oo, BB⟩ ⟨i1, i2, i3, i4, i5, ap, nd⟩
 simp only at i1 i2 i3 i4 i5 ap nd ⊢
 have hbb : hh b1 = noC := Ap.mem' (L := iwO bw oo BB A L) ap _ (hmem oo BB)
 by_cases c1 : k < l.length
 ·obtain ⟨q, rfl⟩ : ∃ q, ma = some q := by
   cases ma with
   | none =>
    have := (hR.cell (z := zeroM) c1 (m := 0) (by decide))
    rw [List.getElem?_eq_getElem (by rw [hR.len]; decide)] at this
    simp [elemCell] at this
   | some q => exact ⟨q, rfl⟩
  have hR2 := hR.up (le1.trans i2)
  have hel := recs_el (z := zeroM) hR2 c1
  have hmx := hM _ (gr_mem' (z := zeroM) c1)
  have fm := xFind_mem hty nd (hmem oo BB) hn
  simp -dsimp -implicitDefEqProofs (disch := first|with_reducible assumption|omega) [go_sem, fm, ↓idxR zeroM (by decide) hR2]
  refine Spec.apn (cl2_w A hb (q.add (k * 6)) (gr zeroM l k) hel hmx.1 hmx.2 i3 (by omega) fun h5 o5 B5 le5 e5 k5 l5 ap5 nd5 => ?_)
  simp -dsimp -implicitDefEqProofs (disch := first|with_reducible assumption|omega) [go_sem]
  refine ⟨k + 1, h5, o5, B5, ⟨by omega, i2.trans le5, k5, ?_, by omega, ap5, nd5⟩, by omega, by simp [Ent, List.lookup], Drop.refl _ _⟩
  rw [e5, i4, List.take_succ_eq_append_getElem c1, List.flatMap_append, List.flatMap_cons, List.flatMap_nil, List.append_nil, List.append_assoc, gr_lt c1]
  try rfl
 ·have hkl : k = l.length := by omega
  subst hkl
  rw [List.take_length] at i4
  simp -dsimp -implicitDefEqProofs (disch := first|with_reducible assumption|omega) [go_sem]
  exact fin_here (hk hh oo BB (le1.trans i2) (by rw [i4, e1, List.append_assoc]) i3 i5)
theorem ldep_w {bw b1 b2 ty cp : Nat} {cs : List Value} {o : Option (Nat × Nat)} {B : List Int} (A : Own) (hb : penB b2 bw ∈ A) (hx : (⟨b1, ty, cs, cp⟩ : Blk) ∈ A) (hty : ty ≠ 4294967295) (off : Nat) (l : List DepD) (ma : Option Addr) (mc : Nat) (hn : cs[off]? = some (.slice ma l.length mc)) (hR : Recs depC 4 h (.slice ma l.length mc) l) (hM : ∀ x ∈ l, DepOk x ∧ 0 ≤ x.acct ∧ 0 ≤ x.mem) (hll : l.length ≤ 2000) (ho : okO o B.length) (hl : B.length + 10 + 40 * l.length ≤ 100000)
  (hk : ∀ h' o' B', PH.le h h' → B' = B ++ (formN l.length ++ l.flatMap depEnc) → okO o' B'.length → B'.length ≤ B.length + 10 + 40 * l.length → K (.tuple #[]) (iwO bw o' B' A L) h') :
  Spec Tryz.prog 99 [penW bw, .pointer (some ⟨b1, off, none⟩), .func (.func 100) #[] #[.pointer (some ⟨b2, 0, none⟩)]] (iwO bw o B A L) h K := by
 have hd : ∀ h, RdW bw A L h [⟨b1, ty, cs, cp⟩] := fun h => RdW.mem L h hx
 have hmem : ∀ o B, (⟨b1, ty, cs, cp⟩ : Blk) ∈ iwO bw o B A L := fun o B => List.mem_cons_of_mem _ (List.mem_append_left _ hx)
 refine x_enterA Tryz.func99 rfl (rs := []) rfl rfl mixed (by kernel_rfl) rfl rfl fun ap nd => ?_
 have hb1 : h b1 = noC := Ap.mem' (L := iwO bw o B A L) ap _ (hmem o B)
 clear ap nd
 simp -dsimp -implicitDefEqProofs (disch := first|with_reducible assumption|omega) [go_sem]
 refine xanyl (.tk 0 (.tk 1 (.tk 2 (.tk 5 (.tk 6 (.tk 7 (.tkl 3 (.tk 4 (.or true 8 (.tk 9 (.fin)) (.nil)))))))))) (by kernel_rfl) (by kernel_rfl) [⟨b1, ty, cs, cp⟩] (hd _ _ _ _ (PH.le_refl _)) ?_
 simp -dsimp -implicitDefEqProofs (disch := first|with_reducible assumption|omega) [go_sem, xNth_of hn, pnW_count bw]
 refine xcallI (penW_count bw) ?_
 refine Spec.apn (icount_w A l.length (by omega) ho (by omega) fun h1 o1 B1 le1 e1 k1 l1 ap nd => ?_)
 refine xkp (hd _ _ _ _ le1) ?_
 simp -dsimp -implicitDefEqProofs (disch := first|with_reducible assumption|omega) [go_sem]
 refine xloop (γ := Nat × PH × Option (Nat × Nat) × List Int) (0, h1, o1, B1)
  (fun x => x.1 ≤ l.length ∧ PH.le h1 x.2.1 ∧ okO x.2.2.1 x.2.2.2.length ∧ x.2.2.2 = B1 ++ (l.take x.1).flatMap depEnc ∧ x.2.2.2.length ≤ B.length + 10 + 40 * x.1 ∧ Ap (iwO bw x.2.2.1 x.2.2.2 A L) x.2.1 ∧ Nd (iwO bw x.2.2.1 x.2.2.2 A L))
  (fun x => [(21, .int .i64 x.1), (20, .int .i64 l.length), (0, penW bw), (1, .pointer (some ⟨b1, off, none⟩)), (2, .func (.func 100) #[] #[.pointer (some ⟨b2, 0, none⟩)])])
  (fun x => iwO bw x.2.2.1 x.2.2.2 A L) (fun x => x.2.1) (fun x => l.length - x.1) ?_ ?_ ?_ ?_
 ·exact ⟨Nat.zero_le _, PH.le_refl _, k1, by simp, by simpa using l1, ap, nd⟩
 ·simp [Ent, List.lookup, xEnv]
 ·exact Drop.refl _ _
 clear ap nd
 rintro ⟨k, hh, oo, BB⟩ ⟨i1, i2, i3, i4, i5, ap, nd⟩
 simp only at i1 i2 i3 i4 i5 ap nd ⊢
 have hbb : hh b1 = noC := Ap.mem' (L := iwO bw oo BB A L) ap _ (hmem oo BB)
 by_cases c1 : k < l.length
 ·obtain ⟨q, rfl⟩ : ∃ q, ma = some q := by
   cases ma with
   | none =>
    have := (hR.cell (z := zeroDep) c1 (m := 0) (by decide))
    rw [List.getElem?_eq_getElem (by rw [hR.len]; decide)] at this
    simp [elemCell] at this
   | some q => exact ⟨q, rfl⟩
  have hR2 := hR.up (le1.trans i2)
  have hel := recs_el (z := zeroDep) hR2 c1
  have hmx := hM _ (gr_mem' (z := zeroDep) c1)
  have fm := xFind_mem hty nd (hmem oo BB) hn
  simp -dsimp -implicitDefEqProofs (disch := first|with_reducible assumption|omega) [go_sem, fm, ↓idxR zeroDep (by decide) hR2]
  refine Spec.apn (cl5_w A hb (q.add (k * 4)) (gr zeroDep l k) hel hmx.1 hmx.2 i3 (by omega) fun h5 o5 B5 le5 e5 k5 l5 ap5 nd5 => ?_)
  simp -dsimp -implicitDefEqProofs (disch := first|with_reducible assumption|omega) [go_sem]
  refine ⟨k + 1, h5, o5, B5, ⟨by omega, i2.trans le5, k5, ?_, by omega, ap5, nd5⟩, by omega, by simp [Ent, List.lookup], Drop.refl _ _⟩
  rw [e5, i4, List.take_succ_eq_append_getElem c1, List.flatMap_append, List.flatMap_cons, List.flatMap_nil, List.append_nil, List.append_assoc, gr_lt c1]
  try rfl
 ·have hkl : k = l.length := by omega
  subst hkl
  rw [List.take_length] at i4
  simp -dsimp -implicitDefEqProofs (disch := first|with_reducible assumption|omega) [go_sem]
  exact fin_here (hk hh oo BB (le1.trans i2) (by rw [i4, e1, List.append_assoc]) i3 i5)
theorem dueEnc_len {d : DueD} (ha : 0 ≤ d.amt ∧ d.amt ≤ 18446744073709551615) (hp : 0 ≤ d.acct ∧ 0 ≤ d.at' ∧ d.acct ≤ 63 ∧ d.at' ≤ 2147483647) : (dueEnc d).length ≤ 16 := by
 have h1 := formN_len 1 d.acct.toNat (by omega) (by decide)
 have h2 := formN_len 5 d.at'.toNat (by omega) (by decide)
 have h3 := formN_len 10 d.amt.toNat (by omega) (by decide)
 simp only [dueEnc, List.length_append]
 omega
theorem ldue_w {bw b1 b2 ty cp : Nat} {cs : List Value} {o : Option (Nat × Nat)} {B : List Int} (A : Own) (hb : penB b2 bw ∈ A) (hx : (⟨b1, ty, cs, cp⟩ : Blk) ∈ A) (hty : ty ≠ 4294967295) (off : Nat) (l : List DueD) (ma : Option Addr) (mc : Nat) (hn : cs[off]? = some (.slice ma l.length mc)) (hR : Recs dueC 3 h (.slice ma l.length mc) l) (hM : ∀ x ∈ l, DueOk x ∧ 0 ≤ x.acct ∧ 0 ≤ x.at' ∧ x.acct ≤ 63 ∧ x.at' ≤ 2147483647) (hll : l.length ≤ 3300) (ho : okO o B.length) (hl : B.length + 10 + 16 * l.length ≤ 100000)
  (hk : ∀ h' o' B', PH.le h h' → B' = B ++ (formN l.length ++ l.flatMap dueEnc) → okO o' B'.length → B'.length ≤ B.length + 10 + 16 * l.length → K (.tuple #[]) (iwO bw o' B' A L) h') :
  Spec Tryz.prog 101 [penW bw, .pointer (some ⟨b1, off, none⟩), .func (.func 102) #[] #[.pointer (some ⟨b2, 0, none⟩)]] (iwO bw o B A L) h K := by
 have hd : ∀ h, RdW bw A L h [⟨b1, ty, cs, cp⟩] := fun h => RdW.mem L h hx
 have hmem : ∀ o B, (⟨b1, ty, cs, cp⟩ : Blk) ∈ iwO bw o B A L := fun o B => List.mem_cons_of_mem _ (List.mem_append_left _ hx)
 refine x_enterA Tryz.func101 rfl (rs := []) rfl rfl mixed (by kernel_rfl) rfl rfl fun ap nd => ?_
 have hb1 : h b1 = noC := Ap.mem' (L := iwO bw o B A L) ap _ (hmem o B)
 clear ap nd
 simp -dsimp -implicitDefEqProofs (disch := first|with_reducible assumption|omega) [go_sem]
 refine xanyl (.tk 0 (.tk 1 (.tk 2 (.tk 5 (.tk 6 (.tk 7 (.tkl 3 (.tk 4 (.or true 8 (.tk 9 (.fin)) (.nil)))))))))) (by kernel_rfl) (by kernel_rfl) [⟨b1, ty, cs, cp⟩] (hd _ _ _ _ (PH.le_refl _)) ?_
 simp -dsimp -implicitDefEqProofs (disch := first|with_reducible assumption|omega) [go_sem, xNth_of hn, pnW_count bw]
 refine xcallI (penW_count bw) ?_
 refine Spec.apn (icount_w A l.length (by omega) ho (by omega) fun h1 o1 B1 le1 e1 k1 l1 ap nd => ?_)
 refine xkp (hd _ _ _ _ le1) ?_
 simp -dsimp -implicitDefEqProofs (disch := first|with_reducible assumption|omega) [go_sem]
 refine xloop (γ := Nat × PH × Option (Nat × Nat) × List Int) (0, h1, o1, B1)
  (fun x => x.1 ≤ l.length ∧ PH.le h1 x.2.1 ∧ okO x.2.2.1 x.2.2.2.length ∧ x.2.2.2 = B1 ++ (l.take x.1).flatMap dueEnc ∧ x.2.2.2.length ≤ B.length + 10 + 16 * x.1 ∧ Ap (iwO bw x.2.2.1 x.2.2.2 A L) x.2.1 ∧ Nd (iwO bw x.2.2.1 x.2.2.2 A L))
  (fun x => [(21, .int .i64 x.1), (20, .int .i64 l.length), (0, penW bw), (1, .pointer (some ⟨b1, off, none⟩)), (2, .func (.func 102) #[] #[.pointer (some ⟨b2, 0, none⟩)])])
  (fun x => iwO bw x.2.2.1 x.2.2.2 A L) (fun x => x.2.1) (fun x => l.length - x.1) ?_ ?_ ?_ ?_
 ·exact ⟨Nat.zero_le _, PH.le_refl _, k1, by simp, by simpa using l1, ap, nd⟩
 ·simp [Ent, List.lookup, xEnv]
 ·exact Drop.refl _ _
 clear ap nd
 rintro ⟨k, hh, oo, BB⟩ ⟨i1, i2, i3, i4, i5, ap, nd⟩
 simp only at i1 i2 i3 i4 i5 ap nd ⊢
 have hbb : hh b1 = noC := Ap.mem' (L := iwO bw oo BB A L) ap _ (hmem oo BB)
 by_cases c1 : k < l.length
 ·obtain ⟨q, rfl⟩ : ∃ q, ma = some q := by
   cases ma with
   | none =>
    have := (hR.cell (z := zeroDue) c1 (m := 0) (by decide))
    rw [List.getElem?_eq_getElem (by rw [hR.len]; decide)] at this
    simp [elemCell] at this
   | some q => exact ⟨q, rfl⟩
  have hR2 := hR.up (le1.trans i2)
  have hel := recs_el (z := zeroDue) hR2 c1
  have hmx := hM _ (gr_mem' (z := zeroDue) c1)
  have fm := xFind_mem hty nd (hmem oo BB) hn
  simp -dsimp -implicitDefEqProofs (disch := first|with_reducible assumption|omega) [go_sem, fm, ↓idxR zeroDue (by decide) hR2]
  refine Spec.apn (cl6_w A hb (q.add (k * 3)) (gr zeroDue l k) hel hmx.1 ⟨hmx.2.1, hmx.2.2.1⟩ i3 (by omega) fun h5 o5 B5 le5 e5 k5 l5 ap5 nd5 => ?_)
  have l5 : B5.length ≤ BB.length + 16 := by
   rw [e5, List.length_append]
   have := dueEnc_len hmx.1.a hmx.2
   omega
  simp -dsimp -implicitDefEqProofs (disch := first|with_reducible assumption|omega) [go_sem]
  refine ⟨k + 1, h5, o5, B5, ⟨by omega, i2.trans le5, k5, ?_, by omega, ap5, nd5⟩, by omega, by simp [Ent, List.lookup], Drop.refl _ _⟩
  rw [e5, i4, List.take_succ_eq_append_getElem c1, List.flatMap_append, List.flatMap_cons, List.flatMap_nil, List.append_nil, List.append_assoc, gr_lt c1]
  try rfl
 ·have hkl : k = l.length := by omega
  subst hkl
  rw [List.take_length] at i4
  simp -dsimp -implicitDefEqProofs (disch := first|with_reducible assumption|omega) [go_sem]
  exact fin_here (hk hh oo BB (le1.trans i2) (by rw [i4, e1, List.append_assoc]) i3 i5)
theorem cl1_w {bw b2 : Nat} {o : Option (Nat × Nat)} {B : List Int} (A : Own) (hb : penB b2 bw ∈ A) (a : Addr) (z : Int) (hz : 0 ≤ z ∧ z ≤ 18446744073709551615) (he : ElC h a [.int .u64 z]) (ho : okO o B.length) (hl : B.length ≤ 100000)
  (hk : ∀ h' o' B', PH.le h h' → B' = B ++ formN z.toNat → okO o' B'.length → B'.length ≤ B.length + 10 → K (.tuple #[]) (iwO bw o' B' A L) h') :
  Spec Tryz.prog 93 [.pointer (some a), .pointer (some ⟨b2, 0, none⟩)] (iwO bw o B A L) h K := by
 have hmem : ∀ o B, penB b2 bw ∈ iwO bw o B A L := fun o B => List.mem_cons_of_mem _ (List.mem_append_left _ hb)
 refine x_enterA Tryz.func93 rfl (rs := []) rfl rfl mixed (by kernel_rfl) rfl rfl fun ap nd => ?_
 have hb2 : h b2 = noC := Ap.mem' (L := iwO bw o B A L) ap _ (hmem o B)
 have fm := xFind_mem (i := 0) (by decide) nd (hmem o B) rfl
 simp -dsimp -implicitDefEqProofs (disch := first|with_reducible assumption|omega) [go_sem, fm]
 refine xcallI (penW_num bw) ?_
 refine inum_w A [] (RdW.nil _ _ _ _) a z (he.rd0 rfl _) hz.1 hz.2 ho (by omega) fun h' o' B' le e k1 l1 => ?_
 simp -dsimp -implicitDefEqProofs (disch := first|with_reducible assumption|omega) [go_sem]
 exact fin_here (hk h' o' B' le e k1 (by omega))
theorem cl3_w {bw b2 : Nat} {o : Option (Nat × Nat)} {B : List Int} (A : Own) (hb : penB b2 bw ∈ A) (a : Addr) (z : Int) (hz : 0 ≤ z ∧ z ≤ 9223372036854775807) (he : ElC h a [.int .i64 z]) (ho : okO o B.length) (hl : B.length ≤ 100000)
  (hk : ∀ h' o' B', PH.le h h' → B' = B ++ formN z.toNat → okO o' B'.length → B'.length ≤ B.length + 10 → K (.tuple #[]) (iwO bw o' B' A L) h') :
  Spec Tryz.prog 97 [.pointer (some a), .pointer (some ⟨b2, 0, none⟩)] (iwO bw o B A L) h K := by
 have hmem : ∀ o B, penB b2 bw ∈ iwO bw o B A L := fun o B => List.mem_cons_of_mem _ (List.mem_append_left _ hb)
 refine x_enterA Tryz.func97 rfl (rs := []) rfl rfl mixed (by kernel_rfl) rfl rfl fun ap nd => ?_
 have hb2 : h b2 = noC := Ap.mem' (L := iwO bw o B A L) ap _ (hmem o B)
 have fm := xFind_mem (i := 0) (by decide) nd (hmem o B) rfl
 simp -dsimp -implicitDefEqProofs (disch := first|with_reducible assumption|omega) [go_sem, fm]
 refine xcallI (penW_int bw) ?_
 refine iint_w A [] (RdW.nil _ _ _ _) a z (he.rd0 rfl _) hz.1 hz.2 ho (by omega) fun h' o' B' le e k1 l1 => ?_
 simp -dsimp -implicitDefEqProofs (disch := first|with_reducible assumption|omega) [go_sem]
 exact fin_here (hk h' o' B' le e k1 (by omega))
theorem cl4_w {bw b2 : Nat} {o : Option (Nat × Nat)} {B : List Int} (A : Own) (hb : penB b2 bw ∈ A) (a : Addr) (z : Int) (hz : 0 ≤ z ∧ z ≤ 9223372036854775807) (he : ElC h a [.int .i64 z]) (ho : okO o B.length) (hl : B.length ≤ 100000)
  (hk : ∀ h' o' B', PH.le h h' → B' = B ++ formN z.toNat → okO o' B'.length → B'.length ≤ B.length + 10 → K (.tuple #[]) (iwO bw o' B' A L) h') :
  Spec Tryz.prog 98 [.pointer (some a), .pointer (some ⟨b2, 0, none⟩)] (iwO bw o B A L) h K := by
 have hmem : ∀ o B, penB b2 bw ∈ iwO bw o B A L := fun o B => List.mem_cons_of_mem _ (List.mem_append_left _ hb)
 refine x_enterA Tryz.func98 rfl (rs := []) rfl rfl mixed (by kernel_rfl) rfl rfl fun ap nd => ?_
 have hb2 : h b2 = noC := Ap.mem' (L := iwO bw o B A L) ap _ (hmem o B)
 have fm := xFind_mem (i := 0) (by decide) nd (hmem o B) rfl
 simp -dsimp -implicitDefEqProofs (disch := first|with_reducible assumption|omega) [go_sem, fm]
 refine xcallI (penW_int bw) ?_
 refine iint_w A [] (RdW.nil _ _ _ _) a z (he.rd0 rfl _) hz.1 hz.2 ho (by omega) fun h' o' B' le e k1 l1 => ?_
 simp -dsimp -implicitDefEqProofs (disch := first|with_reducible assumption|omega) [go_sem]
 exact fin_here (hk h' o' B' le e k1 (by omega))
theorem cl8_w {bw b2 : Nat} {o : Option (Nat × Nat)} {B : List Int} (A : Own) (hb : penB b2 bw ∈ A) (a : Addr) (v : Value) (bs : List Int) (hv : Ints h .u8 v bs) (hbl : bs.length ≤ 50) (he : ElC h a [v]) (ho : okO o B.length) (hl : B.length ≤ 100000)
  (hk : ∀ h' o' B', PH.le h h' → B' = B ++ rawN bs → okO o' B'.length → B'.length ≤ B.length + 60 → K (.tuple #[]) (iwO bw o' B' A L) h') :
  Spec Tryz.prog 107 [.pointer (some a), .pointer (some ⟨b2, 0, none⟩)] (iwO bw o B A L) h K := by
 have hmem : ∀ o B, penB b2 bw ∈ iwO bw o B A L := fun o B => List.mem_cons_of_mem _ (List.mem_append_left _ hb)
 refine x_enterA Tryz.func107 rfl (rs := []) rfl rfl mixed (by kernel_rfl) rfl rfl fun ap nd => ?_
 have hb2 : h b2 = noC := Ap.mem' (L := iwO bw o B A L) ap _ (hmem o B)
 have fm := xFind_mem (i := 0) (by decide) nd (hmem o B) rfl
 simp -dsimp -implicitDefEqProofs (disch := first|with_reducible assumption|omega) [go_sem, fm]
 refine xcallI (penW_raw bw) ?_
 refine iraw_w A [] (RdW.nil _ _ _ _) a v bs (he.rd0 rfl _) hv (by omega) ho (by omega) fun h' o' B' le e k1 l1 => ?_
 simp -dsimp -implicitDefEqProofs (disch := first|with_reducible assumption|omega) [go_sem]
 exact fin_here (hk h' o' B' le e k1 (by omega))
theorem ints_recs {k : IntKind} {v : Value} {zs : List Int} (hi : Ints h k v zs) : Recs (fun z : Int => [Value.int k z]) 1 h v zs := ⟨fun _ => rfl, by
 have e : ∀ l : List Int, l.flatMap (fun z : Int => [Value.int k z]) = l.map (Value.int k) := fun l => by
  induction l with
  | nil => rfl
  | cons a l ih => rw [List.flatMap_cons, ih]; rfl
 rw [e]; exact hi.1⟩
def numEnc (z : Int) : List Int := formN z.toNat
theorem lnum_w {bw b1 b2 ty cp : Nat} {cs : List Value} {o : Option (Nat × Nat)} {B : List Int} (A : Own) (hb : penB b2 bw ∈ A) (hx : (⟨b1, ty, cs, cp⟩ : Blk) ∈ A) (hty : ty ≠ 4294967295) (off : Nat) (l : List Int) (ma : Option Addr) (mc : Nat) (hn : cs[off]? = some (.slice ma l.length mc)) (hR : Recs (fun z : Int => [Value.int .u64 z]) 1 h (.slice ma l.length mc) l) (hM : ∀ x ∈ l, 0 ≤ x ∧ x ≤ 18446744073709551615) (hll : l.length ≤ 2000) (ho : okO o B.length) (hl : B.length + 10 + 10 * l.length ≤ 100000)
  (hk : ∀ h' o' B', PH.le h h' → B' = B ++ (formN l.length ++ l.flatMap numEnc) → okO o' B'.length → B'.length ≤ B.length + 10 + 10 * l.length → K (.tuple #[]) (iwO bw o' B' A L) h') :
  Spec Tryz.prog 92 [penW bw, .pointer (some ⟨b1, off, none⟩), .func (.func 93) #[] #[.pointer (some ⟨b2, 0, none⟩)]] (iwO bw o B A L) h K := by
 have hd : ∀ h, RdW bw A L h [⟨b1, ty, cs, cp⟩] := fun h => RdW.mem L h hx
 have hmem : ∀ o B, (⟨b1, ty, cs, cp⟩ : Blk) ∈ iwO bw o B A L := fun o B => List.mem_cons_of_mem _ (List.mem_append_left _ hx)
 refine x_enterA Tryz.func92 rfl (rs := []) rfl rfl mixed (by kernel_rfl) rfl rfl fun ap nd => ?_
 have hb1 : h b1 = noC := Ap.mem' (L := iwO bw o B A L) ap _ (hmem o B)
 clear ap nd
 simp -dsimp -implicitDefEqProofs (disch := first|with_reducible assumption|omega) [go_sem]
 refine xanyl (.tk 0 (.tk 1 (.tk 2 (.tk 5 (.tk 6 (.tk 7 (.tkl 3 (.tk 4 (.or true 8 (.tk 9 (.fin)) (.nil)))))))))) (by kernel_rfl) (by kernel_rfl) [⟨b1, ty, cs, cp⟩] (hd _ _ _ _ (PH.le_refl _)) ?_
 simp -dsimp -implicitDefEqProofs (disch := first|with_reducible assumption|omega) [go_sem, xNth_of hn, pnW_count bw]
 refine xcallI (penW_count bw) ?_
 refine Spec.apn (icount_w A l.length (by omega) ho (by omega) fun h1 o1 B1 le1 e1 k1 l1 ap nd => ?_)
 refine xkp (hd _ _ _ _ le1) ?_
 simp -dsimp -implicitDefEqProofs (disch := first|with_reducible assumption|omega) [go_sem]
 refine xloop (γ := Nat × PH × Option (Nat × Nat) × List Int) (0, h1, o1, B1)
  (fun x => x.1 ≤ l.length ∧ PH.le h1 x.2.1 ∧ okO x.2.2.1 x.2.2.2.length ∧ x.2.2.2 = B1 ++ (l.take x.1).flatMap numEnc ∧ x.2.2.2.length ≤ B.length + 10 + 10 * x.1 ∧ Ap (iwO bw x.2.2.1 x.2.2.2 A L) x.2.1 ∧ Nd (iwO bw x.2.2.1 x.2.2.2 A L))
  (fun x => [(21, .int .i64 x.1), (20, .int .i64 l.length), (0, penW bw), (1, .pointer (some ⟨b1, off, none⟩)), (2, .func (.func 93) #[] #[.pointer (some ⟨b2, 0, none⟩)])])
  (fun x => iwO bw x.2.2.1 x.2.2.2 A L) (fun x => x.2.1) (fun x => l.length - x.1) ?_ ?_ ?_ ?_
 ·exact ⟨Nat.zero_le _, PH.le_refl _, k1, by simp, by simpa using l1, ap, nd⟩
 ·simp [Ent, List.lookup, xEnv]
 ·exact Drop.refl _ _
 clear ap nd
 rintro ⟨k, hh, oo, BB⟩ ⟨i1, i2, i3, i4, i5, ap, nd⟩
 simp only at i1 i2 i3 i4 i5 ap nd ⊢
 have hbb : hh b1 = noC := Ap.mem' (L := iwO bw oo BB A L) ap _ (hmem oo BB)
 by_cases c1 : k < l.length
 ·obtain ⟨q, rfl⟩ : ∃ q, ma = some q := by
   cases ma with
   | none =>
    have := (hR.cell (z := (0 : Int)) c1 (m := 0) (by decide))
    rw [List.getElem?_eq_getElem (by rw [hR.len]; decide)] at this
    simp [elemCell] at this
   | some q => exact ⟨q, rfl⟩
  have hR2 := hR.up (le1.trans i2)
  have hel := recs_el (z := (0 : Int)) hR2 c1
  have hmx := hM _ (gr_mem' (z := (0 : Int)) c1)
  have fm := xFind_mem hty nd (hmem oo BB) hn
  simp -dsimp -implicitDefEqProofs (disch := first|with_reducible assumption|omega) [go_sem, fm, ↓idxR (0 : Int) (by decide) hR2, Nat.mul_one]
  rw [Nat.mul_one] at hel
  refine Spec.apn (cl1_w A hb (q.add k) (gr 0 l k) hmx hel i3 (by omega) fun h5 o5 B5 le5 e5 k5 l5 ap5 nd5 => ?_)
  simp -dsimp -implicitDefEqProofs (disch := first|with_reducible assumption|omega) [go_sem]
  refine ⟨k + 1, h5, o5, B5, ⟨by omega, i2.trans le5, k5, ?_, by omega, ap5, nd5⟩, by omega, by simp [Ent, List.lookup], Drop.refl _ _⟩
  rw [e5, i4, List.take_succ_eq_append_getElem c1, List.flatMap_append, List.flatMap_cons, List.flatMap_nil, List.append_nil, List.append_assoc, gr_lt c1]
  try rfl
 ·have hkl : k = l.length := by omega
  subst hkl
  rw [List.take_length] at i4
  simp -dsimp -implicitDefEqProofs (disch := first|with_reducible assumption|omega) [go_sem]
  exact fin_here (hk hh oo BB (le1.trans i2) (by rw [i4, e1, List.append_assoc]) i3 i5)
theorem lint3_w {bw b1 b2 ty cp : Nat} {cs : List Value} {o : Option (Nat × Nat)} {B : List Int} (A : Own) (hb : penB b2 bw ∈ A) (hx : (⟨b1, ty, cs, cp⟩ : Blk) ∈ A) (hty : ty ≠ 4294967295) (off : Nat) (l : List Int) (ma : Option Addr) (mc : Nat) (hn : cs[off]? = some (.slice ma l.length mc)) (hR : Recs (fun z : Int => [Value.int .i64 z]) 1 h (.slice ma l.length mc) l) (hM : ∀ x ∈ l, 0 ≤ x ∧ x ≤ 9223372036854775807) (hll : l.length ≤ 2000) (ho : okO o B.length) (hl : B.length + 10 + 10 * l.length ≤ 100000)
  (hk : ∀ h' o' B', PH.le h h' → B' = B ++ (formN l.length ++ l.flatMap numEnc) → okO o' B'.length → B'.length ≤ B.length + 10 + 10 * l.length → K (.tuple #[]) (iwO bw o' B' A L) h') :
  Spec Tryz.prog 96 [penW bw, .pointer (some ⟨b1, off, none⟩), .func (.func 97) #[] #[.pointer (some ⟨b2, 0, none⟩)]] (iwO bw o B A L) h K := by
 have hd : ∀ h, RdW bw A L h [⟨b1, ty, cs, cp⟩] := fun h => RdW.mem L h hx
 have hmem : ∀ o B, (⟨b1, ty, cs, cp⟩ : Blk) ∈ iwO bw o B A L := fun o B => List.mem_cons_of_mem _ (List.mem_append_left _ hx)
 refine x_enterA Tryz.func96 rfl (rs := []) rfl rfl mixed (by kernel_rfl) rfl rfl fun ap nd => ?_
 have hb1 : h b1 = noC := Ap.mem' (L := iwO bw o B A L) ap _ (hmem o B)
 clear ap nd
 simp -dsimp -implicitDefEqProofs (disch := first|with_reducible assumption|omega) [go_sem]
 refine xanyl (.tk 0 (.tk 1 (.tk 2 (.tk 5 (.tk 6 (.tk 7 (.tkl 3 (.tk 4 (.or true 8 (.tk 9 (.fin)) (.nil)))))))))) (by kernel_rfl) (by kernel_rfl) [⟨b1, ty, cs, cp⟩] (hd _ _ _ _ (PH.le_refl _)) ?_
 simp -dsimp -implicitDefEqProofs (disch := first|with_reducible assumption|omega) [go_sem, xNth_of hn, pnW_count bw]
 refine xcallI (penW_count bw) ?_
 refine Spec.apn (icount_w A l.length (by omega) ho (by omega) fun h1 o1 B1 le1 e1 k1 l1 ap nd => ?_)
 refine xkp (hd _ _ _ _ le1) ?_
 simp -dsimp -implicitDefEqProofs (disch := first|with_reducible assumption|omega) [go_sem]
 refine xloop (γ := Nat × PH × Option (Nat × Nat) × List Int) (0, h1, o1, B1)
  (fun x => x.1 ≤ l.length ∧ PH.le h1 x.2.1 ∧ okO x.2.2.1 x.2.2.2.length ∧ x.2.2.2 = B1 ++ (l.take x.1).flatMap numEnc ∧ x.2.2.2.length ≤ B.length + 10 + 10 * x.1 ∧ Ap (iwO bw x.2.2.1 x.2.2.2 A L) x.2.1 ∧ Nd (iwO bw x.2.2.1 x.2.2.2 A L))
  (fun x => [(21, .int .i64 x.1), (20, .int .i64 l.length), (0, penW bw), (1, .pointer (some ⟨b1, off, none⟩)), (2, .func (.func 97) #[] #[.pointer (some ⟨b2, 0, none⟩)])])
  (fun x => iwO bw x.2.2.1 x.2.2.2 A L) (fun x => x.2.1) (fun x => l.length - x.1) ?_ ?_ ?_ ?_
 ·exact ⟨Nat.zero_le _, PH.le_refl _, k1, by simp, by simpa using l1, ap, nd⟩
 ·simp [Ent, List.lookup, xEnv]
 ·exact Drop.refl _ _
 clear ap nd
 rintro ⟨k, hh, oo, BB⟩ ⟨i1, i2, i3, i4, i5, ap, nd⟩
 simp only at i1 i2 i3 i4 i5 ap nd ⊢
 have hbb : hh b1 = noC := Ap.mem' (L := iwO bw oo BB A L) ap _ (hmem oo BB)
 by_cases c1 : k < l.length
 ·obtain ⟨q, rfl⟩ : ∃ q, ma = some q := by
   cases ma with
   | none =>
    have := (hR.cell (z := (0 : Int)) c1 (m := 0) (by decide))
    rw [List.getElem?_eq_getElem (by rw [hR.len]; decide)] at this
    simp [elemCell] at this
   | some q => exact ⟨q, rfl⟩
  have hR2 := hR.up (le1.trans i2)
  have hel := recs_el (z := (0 : Int)) hR2 c1
  have hmx := hM _ (gr_mem' (z := (0 : Int)) c1)
  have fm := xFind_mem hty nd (hmem oo BB) hn
  simp -dsimp -implicitDefEqProofs (disch := first|with_reducible assumption|omega) [go_sem, fm, ↓idxR (0 : Int) (by decide) hR2, Nat.mul_one]
  rw [Nat.mul_one] at hel
  refine Spec.apn (cl3_w A hb (q.add k) (gr 0 l k) hmx hel i3 (by omega) fun h5 o5 B5 le5 e5 k5 l5 ap5 nd5 => ?_)
  simp -dsimp -implicitDefEqProofs (disch := first|with_reducible assumption|omega) [go_sem]
  refine ⟨k + 1, h5, o5, B5, ⟨by omega, i2.trans le5, k5, ?_, by omega, ap5, nd5⟩, by omega, by simp [Ent, List.lookup], Drop.refl _ _⟩
  rw [e5, i4, List.take_succ_eq_append_getElem c1, List.flatMap_append, List.flatMap_cons, List.flatMap_nil, List.append_nil, List.append_assoc, gr_lt c1]
  try rfl
 ·have hkl : k = l.length := by omega
  subst hkl
  rw [List.take_length] at i4
  simp -dsimp -implicitDefEqProofs (disch := first|with_reducible assumption|omega) [go_sem]
  exact fin_here (hk hh oo BB (le1.trans i2) (by rw [i4, e1, List.append_assoc]) i3 i5)
theorem lint4_w {bw b1 b2 ty cp : Nat} {cs : List Value} {o : Option (Nat × Nat)} {B : List Int} (A : Own) (hb : penB b2 bw ∈ A) (hx : (⟨b1, ty, cs, cp⟩ : Blk) ∈ A) (hty : ty ≠ 4294967295) (off : Nat) (l : List Int) (ma : Option Addr) (mc : Nat) (hn : cs[off]? = some (.slice ma l.length mc)) (hR : Recs (fun z : Int => [Value.int .i64 z]) 1 h (.slice ma l.length mc) l) (hM : ∀ x ∈ l, 0 ≤ x ∧ x ≤ 9223372036854775807) (hll : l.length ≤ 2000) (ho : okO o B.length) (hl : B.length + 10 + 10 * l.length ≤ 100000)
  (hk : ∀ h' o' B', PH.le h h' → B' = B ++ (formN l.length ++ l.flatMap numEnc) → okO o' B'.length → B'.length ≤ B.length + 10 + 10 * l.length → K (.tuple #[]) (iwO bw o' B' A L) h') :
  Spec Tryz.prog 96 [penW bw, .pointer (some ⟨b1, off, none⟩), .func (.func 98) #[] #[.pointer (some ⟨b2, 0, none⟩)]] (iwO bw o B A L) h K := by
 have hd : ∀ h, RdW bw A L h [⟨b1, ty, cs, cp⟩] := fun h => RdW.mem L h hx
 have hmem : ∀ o B, (⟨b1, ty, cs, cp⟩ : Blk) ∈ iwO bw o B A L := fun o B => List.mem_cons_of_mem _ (List.mem_append_left _ hx)
 refine x_enterA Tryz.func96 rfl (rs := []) rfl rfl mixed (by kernel_rfl) rfl rfl fun ap nd => ?_
 have hb1 : h b1 = noC := Ap.mem' (L := iwO bw o B A L) ap _ (hmem o B)
 clear ap nd
 simp -dsimp -implicitDefEqProofs (disch := first|with_reducible assumption|omega) [go_sem]
 refine xanyl (.tk 0 (.tk 1 (.tk 2 (.tk 5 (.tk 6 (.tk 7 (.tkl 3 (.tk 4 (.or true 8 (.tk 9 (.fin)) (.nil)))))))))) (by kernel_rfl) (by kernel_rfl) [⟨b1, ty, cs, cp⟩] (hd _ _ _ _ (PH.le_refl _)) ?_
 simp -dsimp -implicitDefEqProofs (disch := first|with_reducible assumption|omega) [go_sem, xNth_of hn, pnW_count bw]
 refine xcallI (penW_count bw) ?_
 refine Spec.apn (icount_w A l.length (by omega) ho (by omega) fun h1 o1 B1 le1 e1 k1 l1 ap nd => ?_)
 refine xkp (hd _ _ _ _ le1) ?_
 simp -dsimp -implicitDefEqProofs (disch := first|with_reducible assumption|omega) [go_sem]
 refine xloop (γ := Nat × PH × Option (Nat × Nat) × List Int) (0, h1, o1, B1)
  (fun x => x.1 ≤ l.length ∧ PH.le h1 x.2.1 ∧ okO x.2.2.1 x.2.2.2.length ∧ x.2.2.2 = B1 ++ (l.take x.1).flatMap numEnc ∧ x.2.2.2.length ≤ B.length + 10 + 10 * x.1 ∧ Ap (iwO bw x.2.2.1 x.2.2.2 A L) x.2.1 ∧ Nd (iwO bw x.2.2.1 x.2.2.2 A L))
  (fun x => [(21, .int .i64 x.1), (20, .int .i64 l.length), (0, penW bw), (1, .pointer (some ⟨b1, off, none⟩)), (2, .func (.func 98) #[] #[.pointer (some ⟨b2, 0, none⟩)])])
  (fun x => iwO bw x.2.2.1 x.2.2.2 A L) (fun x => x.2.1) (fun x => l.length - x.1) ?_ ?_ ?_ ?_
 ·exact ⟨Nat.zero_le _, PH.le_refl _, k1, by simp, by simpa using l1, ap, nd⟩
 ·simp [Ent, List.lookup, xEnv]
 ·exact Drop.refl _ _
 clear ap nd
 rintro ⟨k, hh, oo, BB⟩ ⟨i1, i2, i3, i4, i5, ap, nd⟩
 simp only at i1 i2 i3 i4 i5 ap nd ⊢
 have hbb : hh b1 = noC := Ap.mem' (L := iwO bw oo BB A L) ap _ (hmem oo BB)
 by_cases c1 : k < l.length
 ·obtain ⟨q, rfl⟩ : ∃ q, ma = some q := by
   cases ma with
   | none =>
    have := (hR.cell (z := (0 : Int)) c1 (m := 0) (by decide))
    rw [List.getElem?_eq_getElem (by rw [hR.len]; decide)] at this
    simp [elemCell] at this
   | some q => exact ⟨q, rfl⟩
  have hR2 := hR.up (le1.trans i2)
  have hel := recs_el (z := (0 : Int)) hR2 c1
  have hmx := hM _ (gr_mem' (z := (0 : Int)) c1)
  have fm := xFind_mem hty nd (hmem oo BB) hn
  simp -dsimp -implicitDefEqProofs (disch := first|with_reducible assumption|omega) [go_sem, fm, ↓idxR (0 : Int) (by decide) hR2, Nat.mul_one]
  rw [Nat.mul_one] at hel
  refine Spec.apn (cl4_w A hb (q.add k) (gr 0 l k) hmx hel i3 (by omega) fun h5 o5 B5 le5 e5 k5 l5 ap5 nd5 => ?_)
  simp -dsimp -implicitDefEqProofs (disch := first|with_reducible assumption|omega) [go_sem]
  refine ⟨k + 1, h5, o5, B5, ⟨by omega, i2.trans le5, k5, ?_, by omega, ap5, nd5⟩, by omega, by simp [Ent, List.lookup], Drop.refl _ _⟩
  rw [e5, i4, List.take_succ_eq_append_getElem c1, List.flatMap_append, List.flatMap_cons, List.flatMap_nil, List.append_nil, List.append_assoc, gr_lt c1]
  try rfl
 ·have hkl : k = l.length := by omega
  subst hkl
  rw [List.take_length] at i4
  simp -dsimp -implicitDefEqProofs (disch := first|with_reducible assumption|omega) [go_sem]
  exact fin_here (hk hh oo BB (le1.trans i2) (by rw [i4, e1, List.append_assoc]) i3 i5)
end Go.X

/- Lemmas and contracts for a statement about the given program. Conditions: as each says. -/
import Derived.Test.YtpgdjcaifeapgaaGreatQ13
import Derived.Test.YtpgdjcaifeapgaaGreatQ15
import Derived.Test.YtpgdjcaifeapgaaGreatQ21
import Derived.Test.YtpgdjcaifeapgaaGreatQ28
import Derived.Test.YtpgdjcaifeapgaaGreatQ30
import Derived.Test.YtpgdjcaifeapgaaGreatQ32
import Derived.Test.YtpgdjcaifeapgaaGreatQ33
set_option linter.unusedVariables false
set_option linter.unusedSimpArgs false
set_option maxHeartbeats 12800000
set_option maxRecDepth 20000
namespace Go.X
open Go.RowKit Go.Proofs Go.Bl
variable {L : Own} {h : PH} {K : PK}
theorem llistO_any {xs : List Int} {bl : Nat} (o : Option (Nat × Nat)) (ho : okO o xs.length) (hl : xs.length ≤ 1000)
  (hk : ∀ o', okO o' xs.length → apO o' L h → K (ovs o' xs.length) (oent 3 1 o' (xs.map (.int .i64)) L) h) :
  Spec Tryz.prog 225 [.pointer (some ⟨bl, 0, none⟩)] (lnB bl o xs.length :: lnL o xs L) h K := by
 obtain ⟨a, c, ea, hac⟩ := ovs_open ho
 refine x_enterA Tryz.func225 rfl (rs := [_]) rfl rfl mixed (by kernel_rfl) rfl rfl fun ap nd => ?_
 have hb : h bl = noC := ap.1
 clear ap nd
 simp -dsimp -implicitDefEqProofs (disch := first|with_reducible assumption|omega) [go_sem]
 have hsrc : Src (lnB bl o xs.length :: lnL o xs L) h (ovs o xs.length) xs.length (xs.map (.int .i64)) := by
  cases o with
  | none =>
   have h0 : xs.length = 0 := ho
   rw [List.length_eq_zero_iff.1 h0]
   exact Or.inl ⟨rfl, rfl, rfl⟩
  | some p => exact Src.own (b := p.1) (t := 3) (cap := p.2 * 1) (by simp [lnL, oent])
 refine xappend (t := 32) (e := 3) (sz := 1) (bytes := 8) (z := [.int .i64 0]) (by kernel_rfl) tI_3 rfl rfl rfl rfl (by decide) [] _ none 0 [] rfl rfl hsrc (m := xs.length) (by simp) (fun u hu => ?_) (by simp [maxLen]; omega) (by omega) ?_
 ·obtain ⟨w, _, rfl⟩ := List.mem_map.1 hu
  rfl
 intro o1 j1 j2 j3
 simp only [List.nil_append, Nat.zero_add] at j1 j2 ⊢
 obtain ⟨x1, y1, e1, _⟩ := ovs_open j1
 rw [e1]
 simp -dsimp -implicitDefEqProofs (disch := first|with_reducible assumption|omega) [go_sem]
 have k1 := hk o1 j1 (apO_oent (apO_tail j2))
 rw [e1] at k1
 refine ⟨_, h, Drop.sub ?_, k1⟩
 rw [oent_splitV o1 _ L, oent_splitV o1 _ (lnB bl o xs.length :: lnL o xs L)]
 refine List.Sublist.append (List.Sublist.refl _) (List.Sublist.cons _ ?_)
 rw [lnL, oent_splitV o]
 exact List.sublist_append_right _ _
theorem sfirst_any {xs : List Int} (v : Value) (hv : Ints h .i64 v xs) (hl : xs.length ≤ 256) (h0 : ∀ z ∈ xs, 0 ≤ z) (hn : xs.Nodup) (m : Int) (hm : 0 ≤ m ∧ m ≤ 9223372036854775807)
  (hk : ∀ h' r o', PH.le h h' → Ints h' .i64 r (xs.take m.toNat) → okO o' (xs.drop m.toNat).length → apO o' L h' → K (.tuple #[r, ovs o' (xs.drop m.toNat).length]) (oent 3 1 o' ((xs.drop m.toNat).map (.int .i64)) L) h') :
  Spec Tryz.prog 139 [v, .int .i64 m] L h K := by
 have hr := hv.2
 have hv0 := hv
 obtain ⟨va, vc, rfl, hcap, hln, _, hcs⟩ := hv.open
 refine x_enter Tryz.func139 rfl (rs := [_, _]) rfl rfl mixed (by kernel_rfl) rfl rfl ?_
 simp -dsimp -implicitDefEqProofs (disch := first|with_reducible assumption|omega) [go_sem]
 refine lnew_any _ hv0 hl h0 hn fun bl o nb hb ho => ?_
 simp -dsimp -implicitDefEqProofs (disch := first|with_reducible assumption|omega) [go_sem]
 refine lpop_any o ho (by omega) m hm hr fun h1 r le1 it => ?_
 have hdl : (xs.drop m.toNat).length ≤ xs.length := by rw [List.length_drop]; omega
 obtain ⟨ys, hys⟩ : ∃ ys, ys = xs.drop m.toNat := ⟨_, rfl⟩
 rw [← hys] at hk hdl ⊢
 simp -dsimp -implicitDefEqProofs (disch := first|with_reducible assumption|omega) [go_sem]
 refine llistO_any (xs := ys) o (okO_leM ho hdl) (by omega) fun o' k1 k2 => ?_
 simp -dsimp -implicitDefEqProofs (disch := first|with_reducible assumption|omega) [go_sem]
 exact fin_here (hk h1 r o' le1 it k1 k2)
theorem fin_pub2V {e1 sz1 n1 e2 sz2 n2 : Nat} {o1 o2 : Option (Nat × Nat)} {xs1 xs2 : List Value} {L : Own} {h : PH} {K : PK} {v : Value} (ok1 : okO o1 n1) (hl1 : xs1.length = n1 * sz1) (hn1 : n1 ≤ 9223372036854775807) (ok2 : okO o2 n2) (hl2 : xs2.length = n2 * sz2) (hn2 : n2 ≤ 9223372036854775807)
  (ha1 : apO o1 (oent e2 sz2 o2 xs2 L) h) (ha2 : apO o2 L h)
  (hk : ∀ h', PH.le h h' → Sl h' (ovs o1 n1) n1 sz1 xs1 → Sl h' (ovs o2 n2) n2 sz2 xs2 → fin K v L h') (he1 : e1 ≠ 4294967295 := by first | decide | omega) (he2 : e2 ≠ 4294967295 := by first | decide | omega) : fin K v (oent e1 sz1 o1 xs1 (oent e2 sz2 o2 xs2 L)) h := by
 have a1 : apO o1 [] h := by
  cases o1 with
  | none => trivial
  | some p => exact ⟨trivial, ha1.2⟩
 have a2 : apO o2 [] (pubO h o1 xs1) := by
  cases o2 with
  | none => trivial
  | some q =>
   cases o1 with
   | none => exact ⟨trivial, ha2.2⟩
   | some p => exact ⟨trivial, pubO_noC (o := some p) (Ne.symm ha1.1.1) ha2.2⟩
 have le1 := pub_le_o a1 xs1
 have le2 := pub_le_o a2 xs2
 obtain ⟨L', h', hd, hk⟩ := hk _ (le1.trans le2) ((pub_sl ok1 hl1 hn1).up le2) (pub_sl ok2 hl2 hn2)
 exact ⟨L', h', ((pub_drop_o o1 xs1 _ h he1).trans (pub_drop_o o2 xs2 L _ he2)).trans hd, hk⟩
def ripB (e : Int) (b : Bool) (d : DueD) : Bool := decide (d.at' ≤ e) == b
def ripA (l : List DueD) (e : Int) (b : Bool) (k : Nat) : List DueD := (l.take k).filter (ripB e b)
theorem ripA_len (l : List DueD) (e : Int) (b : Bool) (k : Nat) : (ripA l e b k).length ≤ l.length := by
 unfold ripA
 exact Nat.le_trans (List.length_filter_le _ _) (by rw [List.length_take]; omega)
theorem ripA_succ {l : List DueD} {e : Int} {b : Bool} {k : Nat} (hk : k < l.length) : ripA l e b (k + 1) = ripA l e b k ++ (if ripB e b (gr zeroDue l k) then [gr zeroDue l k] else []) := by
 unfold ripA
 rw [List.take_add_one, List.getElem?_eq_getElem hk, gr_lt hk, List.filter_append]
 congr 1
 simp only [Option.toList, List.filter]
 cases ripB e b l[k] <;> rfl
theorem ripA_flat (l : List DueD) (e : Int) (b : Bool) (k : Nat) : ((ripA l e b k).flatMap dueC).length = (ripA l e b k).length * 3 := flatG_len dueC_len _
theorem pripe_any {l : List DueD} (v : Value) (hv : Recs dueC 3 h v l) (hl : l.length ≤ 34000) (e : Int)
  (hk : ∀ h' r1 r2, PH.le h h' → Recs dueC 3 h' r1 (l.filter (ripB e true)) → Recs dueC 3 h' r2 (l.filter (ripB e false)) → K (.tuple #[r1, r2]) L h') : Spec Tryz.prog 141 [v, .int .i64 e] L h K := by
 obtain ⟨a, c, rfl, hcap, hln, _, hcs⟩ := hv.open
 refine x_enter Tryz.func141 rfl (rs := [_, _]) rfl rfl mixed (by kernel_rfl) rfl rfl ?_
 simp -dsimp -implicitDefEqProofs (disch := first|with_reducible assumption|omega) [go_sem]
 refine xloop (γ := Nat × Option (Nat × Nat) × Option (Nat × Nat)) (0, none, none) (fun q => q.1 ≤ l.length ∧ okO q.2.1 (ripA l e true q.1).length ∧ okO q.2.2 (ripA l e false q.1).length ∧ apO q.2.1 (oent 123 3 q.2.2 ((ripA l e false q.1).flatMap dueC) L) h ∧ apO q.2.2 L h)
  (fun q => [(10, .int .i64 q.1), (9, .int .i64 l.length), (8, .slice a l.length c), (1, .int .i64 e), (4, ovs q.2.1 (ripA l e true q.1).length), (5, ovs q.2.2 (ripA l e false q.1).length)])
  (fun q => oent 123 3 q.2.1 ((ripA l e true q.1).flatMap dueC) (oent 123 3 q.2.2 ((ripA l e false q.1).flatMap dueC) L)) (fun _ => h) (fun q => l.length - q.1) ?_ ?_ ?_ ?_
 ·exact ⟨Nat.zero_le _, by show (ripA l e true 0).length = 0; simp [ripA], by show (ripA l e false 0).length = 0; simp [ripA], trivial, trivial⟩
 ·simp [Ent, List.lookup, xEnv, ovs, ripA]
 ·exact Drop.refl _ _
 rintro ⟨k, o1, o2⟩ ⟨i1, i2, i3, i4, i5⟩
 simp only at i1 i2 i3 i4 i5 ⊢
 have tl := ripA_len l e true k
 have dl := ripA_len l e false k
 by_cases c1 : k < l.length
 ·have ht := ripA_succ (e := e) (b := true) c1
  have hf := ripA_succ (e := e) (b := false) c1
  simp -dsimp -implicitDefEqProofs (disch := first|with_reducible assumption|omega) [go_sem, ↓idxR zeroDue (by decide) hcs, dueC]
  refine xnew fun b7 n_b7 h_b7 => ?_
  try simp only [Apart] at n_b7
  have n7 := apart_oent (apart_oent n_b7)
  simp -dsimp -implicitDefEqProofs (disch := first|with_reducible assumption|omega) [go_sem, dueC]
  by_cases c2 : (gr zeroDue l k).at' ≤ e
  ·rw [if_pos (by simp [ripB, c2])] at ht
   rw [if_neg (by simp [ripB, c2]), List.append_nil] at hf
   have e3 : (ripA l e true k).length + 1 = (ripA l e true (k + 1)).length := by rw [ht]; simp
   simp -dsimp -implicitDefEqProofs (disch := first|with_reducible assumption|omega) [go_sem, dueC]
   refine xnew fun b1 n_b1 h_b1 => ?_
   try simp only [Apart] at n_b1
   simp -dsimp -implicitDefEqProofs (disch := first|with_reducible assumption|omega) [go_sem]
   refine xappend (t := 34) (e := 123) (sz := 3) (bytes := 24) (by kernel_rfl) tI_123 rfl rfl rfl rfl (by decide) [_, _] _ o1 _ _ i2 (ripA_flat l e true k) (Src.own List.mem_cons_self) (m := 1) (news := dueC (gr zeroDue l k)) rfl (by intro u hu; simp only [dueC, List.mem_cons, List.not_mem_nil, or_false] at hu; rcases hu with rfl | rfl | rfl <;> rfl) (by simp [maxLen]; omega) (by omega) ?_
   intro o1' j1 j2 j3
   rw [e3] at j1
   rw [e3, show (ripA l e true k).flatMap dueC ++ dueC (gr zeroDue l k) = (ripA l e true (k + 1)).flatMap dueC by rw [ht, List.flatMap_append]; simp]
   simp -dsimp -implicitDefEqProofs (disch := first|with_reducible assumption|omega) [go_sem]
   exact ⟨k + 1, o1', o2, ⟨by omega, j1, by rw [hf]; exact i3, by rw [hf]; exact apO_tail (apO_tail j2), i5⟩, by omega, by simp [Ent, List.lookup, hf], by rw [hf]; exact (Drop.tail _ _ _).trans (Drop.tail _ _ _)⟩
  ·rw [if_neg (by simp [ripB, c2]), List.append_nil] at ht
   rw [if_pos (by simp [ripB, c2])] at hf
   have e3 : (ripA l e false k).length + 1 = (ripA l e false (k + 1)).length := by rw [hf]; simp
   simp -dsimp -implicitDefEqProofs (disch := first|with_reducible assumption|omega) [go_sem, dueC]
   refine xnew fun b1 n_b1 h_b1 => ?_
   try simp only [Apart] at n_b1
   simp -dsimp -implicitDefEqProofs (disch := first|with_reducible assumption|omega) [go_sem]
   rw [oent_splitV (e := 123) o1]
   refine xappend (t := 34) (e := 123) (sz := 3) (bytes := 24) (by kernel_rfl) tI_123 rfl rfl rfl rfl (by decide) (_ :: _ :: oent 123 3 o1 _ []) _ o2 _ _ i3 (ripA_flat l e false k) (Src.own List.mem_cons_self) (m := 1) (news := dueC (gr zeroDue l k)) rfl (by intro u hu; simp only [dueC, List.mem_cons, List.not_mem_nil, or_false] at hu; rcases hu with rfl | rfl | rfl <;> rfl) (by simp [maxLen]; omega) (by omega) ?_
   intro o2' j1 j2 j3
   rw [e3] at j1
   rw [e3, show (ripA l e false k).flatMap dueC ++ dueC (gr zeroDue l k) = (ripA l e false (k + 1)).flatMap dueC by rw [hf, List.flatMap_append]; simp]
   simp only [List.cons_append]
   rw [← oent_splitV (e := 123) o1]
   simp -dsimp -implicitDefEqProofs (disch := first|with_reducible assumption|omega) [go_sem]
   have l5 := apO_swap (e2 := 123) (sz2 := 3) (cs2 := (ripA l e false (k + 1)).flatMap dueC) (apO_oent i4) (apO_tail (apO_tail j2))
   exact ⟨k + 1, o1, o2', ⟨by omega, by rw [ht]; exact i2, j1, l5.1, l5.2⟩, by omega, by simp [Ent, List.lookup, ht], by rw [ht]; exact (Drop.tail _ _ _).trans (Drop.tail _ _ _)⟩
 ·obtain rfl : l.length = k := by omega
  have e1 : ripA l e true l.length = l.filter (ripB e true) := by unfold ripA; rw [List.take_length]
  have e2 : ripA l e false l.length = l.filter (ripB e false) := by unfold ripA; rw [List.take_length]
  have f1 := ripA_flat l e true l.length
  have f2 := ripA_flat l e false l.length
  rw [e1] at i2 tl f1
  rw [e2] at i3 i4 dl f2
  rw [e1, e2]
  obtain ⟨x1, y1, q1, _⟩ := ovs_open i2
  obtain ⟨x2, y2, q2, _⟩ := ovs_open i3
  rw [q1, q2]
  simp -dsimp -implicitDefEqProofs (disch := first|with_reducible assumption|omega) [go_sem]
  refine fin_pub2V (n1 := (l.filter (ripB e true)).length) (n2 := (l.filter (ripB e false)).length) i2 f1 (by omega) i3 f2 (by omega) i4 i5 fun h1 le1 s1 s2 => fin_here ?_
  have := hk h1 _ _ le1 (Recs.pub dueC_len s1) (Recs.pub dueC_len s2)
  rwa [q1, q2] at this
theorem rownP_any {xs : List Int} (v : Value) (hx : Ints h .u8 v xs) (hl : xs.length ≤ 1000) (hk : ∀ h' r, PH.le h h' → Ints h' .u8 r xs → K r L h') : Spec Tryz.prog 235 [v] L h K := by
 have hx0 := hx
 obtain ⟨a, c, rfl, _⟩ := hx.open
 refine x_enter Tryz.func235 rfl (rs := [_]) rfl rfl mixed (by kernel_rfl) rfl rfl ?_
 simp -dsimp -implicitDefEqProofs (disch := first|with_reducible assumption|omega) [go_sem]
 refine xappend (t := 36) (e := 5) (sz := 1) (bytes := 1) (z := [.int .u8 0]) (by kernel_rfl) tI_5 rfl rfl rfl rfl (by decide) [] _ none 0 [] rfl rfl (Src.known hx0.1) (by simp) (ints_one _ _) (by simp [maxLen]; omega) (by omega) ?_
 intro o k1 k2 k3
 simp only [Nat.zero_add, List.nil_append] at k1 k2 ⊢
 simp -dsimp -implicitDefEqProofs (disch := first|with_reducible assumption|omega) [go_sem]
 refine fin_pub (n := xs.length) k1 (by simp) (by omega) k2 fun h1 le1 sl => fin_here (hk h1 _ le1 ⟨sl, hx0.2⟩)
def turnP (ring : List (List Int)) (marks : List Int) : List (List Int) := marks :: ring.take 7
def QsOk (h : PH) (q : List QS) : Prop := ∀ p ∈ q, Ints h .u8 p.1 p.2
theorem turn_any {l : List QS} {marks : List Int} (v u : Value) (hv : Strs h v l) (hu : Ints h .u8 u marks) (hl : l.length ≤ 1000) (hb : ∀ b ∈ xsL l, b.length ≤ 1000) (hm : marks.length ≤ 1000)
  (hk : ∀ h' r q, PH.le h h' → Strs h' r q → xsL q = turnP (xsL l) marks → K r L h') : Spec Tryz.prog 152 [v, u] L h K := by
 have hu0 := hu
 obtain ⟨a, c, rfl, hcap, hln, _, hcs, hd⟩ := hv.open
 obtain ⟨ua, uc, rfl, _⟩ := hu.open
 refine x_enter Tryz.func152 rfl (rs := [_]) rfl rfl mixed (by kernel_rfl) rfl rfl ?_
 simp -dsimp -implicitDefEqProofs (disch := first|with_reducible assumption|omega) [go_sem]
 refine Spec.ap (rownP_any _ hu0 hm fun h1 r1 le1 i1 ap => ?_)
 obtain ⟨xa, xc, rfl, _⟩ := i1.open
 simp -dsimp -implicitDefEqProofs (disch := first|with_reducible assumption|omega) [go_sem]
 refine xnew fun b5 n_b5 h_b5 => ?_
 try simp only [Apart] at n_b5
 simp -dsimp -implicitDefEqProofs (disch := first|with_reducible assumption|omega) [go_sem]
 refine xloop (γ := Nat × PH × Option (Nat × Nat) × List QS) (0, h1, some (b5, 1), [(.slice xa marks.length xc, marks)])
  (fun q => q.1 ≤ l.length ∧ PH.le h1 q.2.1 ∧ okO q.2.2.1 q.2.2.2.length ∧ apO q.2.2.1 L q.2.1 ∧ xsL q.2.2.2 = marks :: (xsL l).take (min q.1 7) ∧ QsOk q.2.1 q.2.2.2)
  (fun q => [(13, .int .i64 q.1), (12, .int .i64 l.length), (11, .slice a l.length c), (5, ovs q.2.2.1 q.2.2.2.length)])
  (fun q => oent 36 1 q.2.2.1 (vsL q.2.2.2) L) (fun q => q.2.1) (fun q => l.length - q.1) ?_ ?_ ?_ ?_
 ·refine ⟨Nat.zero_le _, PH.le_refl _, (show 1 ≤ 1 ∧ 1 ≤ maxLen by decide), ⟨n_b5, h_b5⟩, by simp [xsL], fun p hp => ?_⟩
  rw [List.mem_singleton] at hp
  subst hp
  exact i1
 ·simp [Ent, List.lookup, xEnv, ovs]
 ·exact Drop.refl _ _
 rintro ⟨k, h2, o, q⟩ ⟨k1, k2, k3, k4, k5, k6⟩
 simp only at k1 k2 k3 k4 k5 k6 ⊢
 have hxl : (xsL l).length = l.length := xsL_len l
 have hql : q.length = 1 + min k 7 := by
  rw [← xsL_len q, k5, List.length_cons, List.length_take]; omega
 by_cases c1 : k < l.length
 ·have hg := (hd.at c1).up (le1.trans k2)
  have hcs2 : ∀ j, j < l.length → elemCell h2 a j = some (gs l j).1 := (hd.up (le1.trans k2)).open.elim fun a' ⟨cap', e, _, _, _, hc2, _⟩ => by
   cases e
   exact hc2
  have hmem : (gs l k).2 ∈ xsL l := by rw [gs_lt c1]; exact List.mem_map.2 ⟨_, List.getElem_mem c1, rfl⟩
  have hbl := hb _ hmem
  have htk : (xsL l)[k]? = some (gs l k).2 := xsL_at c1
  obtain ⟨x1, y1, e1, _⟩ := ovs_open k3
  have hlen : ∀ (K : Value → Prop) (t : Tok K), xLen Tryz.prog 3 #[37] (ovs o q.length) K t = K (.int .i64 q.length) := fun K t => by rw [e1]; exact xLen_slice (e := 36) (by kernel_rfl) _ _ _
  simp -dsimp -implicitDefEqProofs (disch := first|with_reducible assumption|omega) [go_sem, idx hcs2, hlen]
  by_cases c2 : k < 7
  ·have hm1 : min k 7 = k := by omega
   have hm2 : min (k + 1) 7 = k + 1 := by omega
   rw [hm1] at k5 hql
   simp -dsimp -implicitDefEqProofs (disch := first|with_reducible assumption|omega) [go_sem, idx hcs2, hlen]
   refine Spec.ap (rownP_any _ hg hbl fun h3 r3 le3 i3 ap => ?_)
   obtain ⟨ya, yc, rfl, _⟩ := i3.open
   have k4' := apO_next k4 ap
   simp -dsimp -implicitDefEqProofs (disch := first|with_reducible assumption|omega) [go_sem]
   refine xnew fun b6 n_b6 h_b6 => ?_
   try simp only [Apart] at n_b6
   simp -dsimp -implicitDefEqProofs (disch := first|with_reducible assumption|omega) [go_sem]
   refine xappend (t := 37) (e := 36) (sz := 1) (bytes := 24) (by kernel_rfl) tI_36 rfl rfl rfl rfl (by decide) [_] L o q.length (vsL q) k3 (by simp [vsL]) (Src.own List.mem_cons_self) (m := 1) (news := [.slice ya (gs l k).2.length yc]) rfl (fun u hu => by simp at hu; subst hu; rfl) (by simp [maxLen]; omega) (by omega) ?_
   intro o' j1 j2 j3
   simp -dsimp -implicitDefEqProofs (disch := first|with_reducible assumption|omega) [go_sem]
   refine ⟨k + 1, h3, o', q ++ [(.slice ya (gs l k).2.length yc, (gs l k).2)], ⟨by omega, k2.trans le3, by simpa using j1, apO_tail j2, ?_, fun p hp => ?_⟩, by omega, by simp [Ent, List.lookup], ?_⟩
   ·rw [hm2, List.take_add_one, htk]
    simp only [xsL, List.map_append, List.map_cons, List.map_nil] at k5 ⊢
    rw [k5]
    rfl
   ·rcases List.mem_append.1 hp with hp | hp
    ·exact (k6 p hp).up le3
    ·rw [List.mem_singleton] at hp
     subst hp
     exact i3
   ·simp only [vsL, List.map_append, List.map_cons, List.map_nil]
    exact Drop.tail _ _ _
  ·have hm1 : min k 7 = 7 := by omega
   have hm2 : min (k + 1) 7 = 7 := by omega
   rw [hm1] at k5 hql
   simp -dsimp -implicitDefEqProofs (disch := first|with_reducible assumption|omega) [go_sem]
   exact ⟨k + 1, h2, o, q, ⟨by omega, k2, k3, k4, by rw [hm2]; exact k5, k6⟩, by omega, by simp [Ent, List.lookup], Drop.refl _ _⟩
 ·obtain rfl : l.length = k := by omega
  simp -dsimp -implicitDefEqProofs (disch := first|with_reducible assumption|omega) [go_sem]
  obtain ⟨x1, y1, e1, _⟩ := ovs_open k3
  rw [e1]
  try simp -dsimp -implicitDefEqProofs (disch := first|with_reducible assumption|omega) [go_sem]
  refine fin_pub (n := q.length) k3 (by simp [vsL]) (by omega) k4 fun h3 le3 sl => fin_here ?_
  rw [e1] at sl
  refine hk h3 _ q (le1.trans (k2.trans le3)) ⟨sl, fun p hp => (k6 p hp).up le3⟩ ?_
  rw [k5, turnP]
  congr 1
  by_cases c2 : l.length ≤ 7
  ·rw [Nat.min_eq_left c2, List.take_of_length_le (by omega), List.take_of_length_le (by omega)]
  ·rw [Nat.min_eq_right (by omega)]
end Go.X

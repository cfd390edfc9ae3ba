/- Lemmas and contracts for a statement about the given program. Conditions: as each says. -/
import Derived.Test.YtmkekhodcacfbaaGreatQ33
import Derived.Test.YtmkekhodcacfbaaGreatQ36
set_option linter.unusedVariables false
set_option linter.unusedSimpArgs false
set_option maxHeartbeats 12800000
set_option maxRecDepth 20000
namespace Go.X
open Go.RowKit Go.Proofs Go.Bl
variable {L : Own} {h : PH} {K : PK}
theorem take_snoc {xs : List Int} {k : Nat} (hk : k < xs.length) : xs.take (k + 1) = xs.take k ++ [at0 xs k] := by
 rw [List.take_succ_eq_append_getElem hk, at0_lt hk]
theorem fin_pub2V {e1 sz1 n1 e2 sz2 n2 : Nat} {o1 o2 : Option (Nat × Nat)} {xs1 xs2 : List Value} {L : Own} {h : PH} {K : PK} {v : Value} (ok1 : okO o1 n1) (hl1 : xs1.length = n1 * sz1) (hn1 : n1 ≤ 9223372036854775807) (ok2 : okO o2 n2) (hl2 : xs2.length = n2 * sz2) (hn2 : n2 ≤ 9223372036854775807)
  (ha1 : apO o1 (oent e2 sz2 o2 xs2 L) h) (ha2 : apO o2 L h)
  (hk : ∀ h', PH.le h h' → Sl h' (ovs o1 n1) n1 sz1 xs1 → Sl h' (ovs o2 n2) n2 sz2 xs2 → fin K v L h') (he1 : e1 ≠ 4294967295 := by first | decide | omega) (he2 : e2 ≠ 4294967295 := by first | decide | omega) : fin K v (oent e1 sz1 o1 xs1 (oent e2 sz2 o2 xs2 L)) h := by
 have a1 : apO o1 [] h := by
  cases o1 with
  | none => trivial
  | some p => exact ⟨trivial, ha1.2⟩
 have a2 : apO o2 [] (pubO h o1 xs1) := by
  cases o2 with
  | none => trivial
  | some q =>
   cases o1 with
   | none => exact ⟨trivial, ha2.2⟩
   | some p => exact ⟨trivial, pubO_noC (o := some p) (Ne.symm ha1.1.1) ha2.2⟩
 have le1 := pub_le_o a1 xs1
 have le2 := pub_le_o a2 xs2
 obtain ⟨L', h', hd, hk⟩ := hk _ (le1.trans le2) ((pub_sl ok1 hl1 hn1).up le2) (pub_sl ok2 hl2 hn2)
 exact ⟨L', h', ((pub_drop_o o1 xs1 _ h he1).trans (pub_drop_o o2 xs2 L _ he2)).trans hd, hk⟩
def tkA (xs : List Int) (m k : Nat) : List Int := (xs.take k).take m
def drA (xs : List Int) (m k : Nat) : List Int := (xs.take k).drop m
theorem tkA_len (xs : List Int) (m k : Nat) : (tkA xs m k).length ≤ k := by unfold tkA; simp; omega
theorem drA_len (xs : List Int) (m k : Nat) : (drA xs m k).length ≤ k := by unfold drA; simp; omega
theorem pop16_any {xs : List Int} (v : Value) (hv : Ints h .i64 v xs) (hl : xs.length ≤ 1000) (m : Int) (hm : 0 ≤ m ∧ m ≤ 9223372036854775807)
  (hk : ∀ h' r1 r2, PH.le h h' → Ints h' .i64 r1 (xs.take m.toNat) → Ints h' .i64 r2 (xs.drop m.toNat) → K (.tuple #[r1, r2]) L h') :
  Spec Tryz.prog 50 [v, .int .i64 m] L h K := by
 have hnum := hv.num
 have hr : ∀ z ∈ xs, IntKind.i64.min ≤ z ∧ z ≤ IntKind.i64.max := hv.2
 obtain ⟨a, c, rfl, hcap, hln, _, hcs⟩ := hv.open
 have ix : ∀ {h : PH} {o : Option (Nat × Nat)} {ys : List Int} {n : Nat}, ys.length = n → (∀ z ∈ ys, z ∈ xs) → Sl h (ovs o n) n 1 (ys.map (.int .i64)) → Ints h .i64 (ovs o n) ys := fun {h o ys n} e hs sl => ⟨by rw [e]; exact sl, fun z hz => hr z (hs z hz)⟩
 refine x_enter Tryz.func50 rfl (rs := [_, _]) rfl rfl mixed (by kernel_rfl) rfl rfl ?_
 simp -dsimp -implicitDefEqProofs (disch := first|with_reducible assumption|omega) [go_sem]
 refine xloop (γ := Nat × Option (Nat × Nat) × Option (Nat × Nat)) (0, none, none) (fun q => q.1 ≤ xs.length ∧ okO q.2.1 (tkA xs m.toNat q.1).length ∧ okO q.2.2 (drA xs m.toNat q.1).length ∧ apO q.2.1 (oent 3 1 q.2.2 ((drA xs m.toNat q.1).map (.int .i64)) L) h ∧ apO q.2.2 L h)
  (fun q => [(8, .int .i64 q.1), (0, .slice a xs.length c), (1, .int .i64 m), (6, ovs q.2.1 (tkA xs m.toNat q.1).length), (7, ovs q.2.2 (drA xs m.toNat q.1).length)])
  (fun q => oent 3 1 q.2.1 ((tkA xs m.toNat q.1).map (.int .i64)) (oent 3 1 q.2.2 ((drA xs m.toNat q.1).map (.int .i64)) L)) (fun _ => h) (fun q => xs.length - q.1) ?_ ?_ ?_ ?_
 ·exact ⟨Nat.zero_le _, by show (tkA xs m.toNat 0).length = 0; simp [tkA], by show (drA xs m.toNat 0).length = 0; simp [drA], trivial, trivial⟩
 ·simp [Ent, List.lookup, xEnv, ovs, tkA, drA]
 ·exact Drop.refl _ _
 rintro ⟨k, o1, o2⟩ ⟨i1, i2, i3, i4, i5⟩
 simp only at i1 i2 i3 i4 i5 ⊢
 have tl := tkA_len xs m.toNat k
 have dl := drA_len xs m.toNat k
 by_cases c1 : k < xs.length
 ·have ht := take_snoc c1
  have htl : (xs.take k).length = k := by rw [List.length_take]; omega
  by_cases c2 : (k : Int) < m
  ·have e1 : tkA xs m.toNat (k + 1) = tkA xs m.toNat k ++ [at0 xs k] := by
    unfold tkA
    rw [ht, List.take_append, htl, List.take_of_length_le (l := [at0 xs k]) (by simp; omega)]
   have e2 : drA xs m.toNat (k + 1) = drA xs m.toNat k := by
    unfold drA
    rw [List.drop_eq_nil_of_le (by rw [List.length_take]; omega), List.drop_eq_nil_of_le (by omega)]
   have e3 : (tkA xs m.toNat k).length + 1 = (tkA xs m.toNat (k + 1)).length := by rw [e1]; simp
   simp -dsimp -implicitDefEqProofs (disch := first|with_reducible assumption|omega) [go_sem, idx hcs]
   refine xnew fun b1 n_b1 h_b1 => ?_
   try simp only [Apart] at n_b1
   simp -dsimp -implicitDefEqProofs (disch := first|with_reducible assumption|omega) [go_sem]
   refine xappend (t := 27) (e := 3) (sz := 1) (bytes := 8) (z := [.int .i64 0]) (by kernel_rfl) tI_3 rfl rfl rfl rfl (by decide) [_] _ o1 _ ((tkA xs m.toNat k).map (.int .i64)) i2 (by simp) (Src.own List.mem_cons_self) (m := 1) (news := [.int .i64 (at0 xs k)]) rfl (fun u hu => by simp at hu; subst hu; rfl) (by simp [maxLen]; omega) (by omega) ?_
   intro o1' j1 j2 j3
   rw [e3] at j1
   rw [e3, show (tkA xs m.toNat k).map (Value.int .i64) ++ [.int .i64 (at0 xs k)] = (tkA xs m.toNat (k + 1)).map (.int .i64) by rw [e1]; simp]
   simp -dsimp -implicitDefEqProofs (disch := first|with_reducible assumption|omega) [go_sem]
   exact ⟨k + 1, o1', o2, ⟨by omega, j1, by rw [e2]; exact i3, by rw [e2]; exact apO_tail j2, i5⟩, by omega, by simp [Ent, List.lookup, e2], by rw [e2]; exact Drop.tail _ _ _⟩
  ·have e1 : tkA xs m.toNat (k + 1) = tkA xs m.toNat k := by
    unfold tkA
    rw [ht, List.take_append, htl, show m.toNat - k = 0 by omega]; simp
   have e2 : drA xs m.toNat (k + 1) = drA xs m.toNat k ++ [at0 xs k] := by
    unfold drA
    rw [ht, List.drop_append, htl, show m.toNat - k = 0 by omega]; simp
   have e3 : (drA xs m.toNat k).length + 1 = (drA xs m.toNat (k + 1)).length := by rw [e2]; simp
   simp -dsimp -implicitDefEqProofs (disch := first|with_reducible assumption|omega) [go_sem, idx hcs]
   refine xnew fun b1 n_b1 h_b1 => ?_
   try simp only [Apart] at n_b1
   simp -dsimp -implicitDefEqProofs (disch := first|with_reducible assumption|omega) [go_sem]
   rw [oent_splitV (e := 3) o1]
   refine xappend (t := 27) (e := 3) (sz := 1) (bytes := 8) (z := [.int .i64 0]) (by kernel_rfl) tI_3 rfl rfl rfl rfl (by decide) (_ :: oent 3 1 o1 _ []) _ o2 _ ((drA xs m.toNat k).map (.int .i64)) i3 (by simp) (Src.own List.mem_cons_self) (m := 1) (news := [.int .i64 (at0 xs k)]) rfl (fun u hu => by simp at hu; subst hu; rfl) (by simp [maxLen]; omega) (by omega) ?_
   intro o2' j1 j2 j3
   rw [e3] at j1
   rw [e3, show (drA xs m.toNat k).map (Value.int .i64) ++ [.int .i64 (at0 xs k)] = (drA xs m.toNat (k + 1)).map (.int .i64) by rw [e2]; simp]
   simp only [List.cons_append]
   rw [← oent_splitV (e := 3) o1]
   simp -dsimp -implicitDefEqProofs (disch := first|with_reducible assumption|omega) [go_sem]
   have l5 := apO_swap (e2 := 3) (sz2 := 1) (cs2 := (drA xs m.toNat (k + 1)).map (.int .i64)) (apO_oent i4) (apO_tail j2)
   exact ⟨k + 1, o1, o2', ⟨by omega, by rw [e1]; exact i2, j1, l5.1, l5.2⟩, by omega, by simp [Ent, List.lookup, e1], by rw [e1]; exact Drop.tail _ _ _⟩
 ·obtain rfl : xs.length = k := by omega
  have e1 : tkA xs m.toNat xs.length = xs.take m.toNat := by unfold tkA; rw [List.take_length]
  have e2 : drA xs m.toNat xs.length = xs.drop m.toNat := by unfold drA; rw [List.take_length]
  obtain ⟨x1, y1, q1, _⟩ := ovs_open i2
  obtain ⟨x2, y2, q2, _⟩ := ovs_open i3
  rw [q1, q2]
  simp -dsimp -implicitDefEqProofs (disch := first|with_reducible assumption|omega) [go_sem]
  refine fin_pub2V (n1 := (tkA xs m.toNat xs.length).length) (n2 := (drA xs m.toNat xs.length).length) i2 (by simp) (by omega) i3 (by simp) (by omega) i4 i5 fun h1 le1 s1 s2 => fin_here ?_
  have ix1 := ix (h := h1) (o := o1) (ys := tkA xs m.toNat xs.length) rfl (fun z hz => by rw [e1] at hz; exact List.mem_of_mem_take hz) s1
  have ix2 := ix (h := h1) (o := o2) (ys := drA xs m.toNat xs.length) rfl (fun z hz => by rw [e2] at hz; exact List.mem_of_mem_drop hz) s2
  have := hk h1 _ _ le1 (by rw [← e1]; exact ix1) (by rw [← e2]; exact ix2)
  rwa [q1, q2] at this
theorem Recs.cel {α : Type} {f : α → List Value} {w : Nat} {l : List α} {a : Option Addr} {n c0 : Nat} (z : α) (hd : Recs f w h (.slice a n c0) l) {j m : Nat} (hj : j < l.length) (hm : m < w) {u : Value} (ho : (f (gr z l j))[m]? = some u) (L : Own) (K : Value → Prop) (t : Tok K) :
  xCell L h (elem a (j * w)) m K t = K u := xCell_elem (by rw [hd.cell (z := z) hj hm, ho]) K
def thA (s : StD) (i : Nat) : List Value := ((thI s.members s.marks i).map (nowM s)).flatMap sdC
theorem thA_len (s : StD) (i : Nat) : (thA s i).length = (thI s.members s.marks i).length * 4 := by unfold thA; rw [flatG_len sdC_len, List.length_map]
def slipR (s : StD) (i : Nat) : SlD := { slip1 s i with ends := if outB s i then 4 else 0, paid := (endM' s i).bal }
def ouA (s : StD) (i : Nat) : List Value := ((cP s.members i).map (slipR s)).flatMap slC
theorem ouA_len (s : StD) (i : Nat) : (ouA s i).length = (cP s.members i).length * 8 := by unfold ouA; rw [flatG_len slC_len, List.length_map]
def exA (s : StD) (i : Nat) : List Int := exF s s.exit (cP s.members i)
theorem exA_succ (s : StD) (i : Nat) : exA s (i + 1) = if cntB (gr zeroM s.members i) then (if outB s i then flt (exA s i) i else exA s i) else exA s i := by
 unfold exA exF
 rw [cP_succ]
 split
 ·rw [List.foldl_append]; rfl
 ·rfl
theorem exA_sub (s : StD) : ∀ k, (exA s k).Sublist s.exit
 | 0 => by simp [exA, exF, cP]
 | k + 1 => by
  rw [exA_succ]
  split
  ·split
   ·exact List.filter_sublist.trans (exA_sub s k)
   ·exact exA_sub s k
  ·exact exA_sub s k
theorem slset8 {l : List SlD} {k : Nat} (hk : k < l.length) (b : SlD) :
  (((((((((l.flatMap slC).set (k * 8) (.int .i64 b.mem)).set (k * 8 + 1) (.bool b.there)).set (k * 8 + 1 + 1) (.int .u64 b.prize)).set (k * 8 + 1 + 1 + 1) (.int .u64 b.over)).set (k * 8 + 1 + 1 + 1 + 1) (.int .u64 b.fine)).set (k * 8 + 1 + 1 + 1 + 1 + 1) (.int .u64 b.burned)).set (k * 8 + 1 + 1 + 1 + 1 + 1 + 1) (.int .i64 b.ends)).set (k * 8 + 1 + 1 + 1 + 1 + 1 + 1 + 1) (.int .u64 b.paid)) = (l.set k b).flatMap slC := by
 obtain ⟨a, ha⟩ : ∃ a, a = gr zeroSl l k := ⟨_, rfl⟩
 have st : ∀ (l' : List SlD) (hk' : k < l'.length) (m : Nat) (u : Value) (a a' : SlD), gr zeroSl l' k = a → m < 8 → slC a' = (slC a).set m u → (l'.flatMap slC).set (k * 8 + m) u = (l'.set k a').flatMap slC := fun l' hk' m u a a' e hm h1 => flatG_set slC_len zeroSl l' (m := m) hk' hm (by rw [e]; exact h1)
 have gg : ∀ x, gr zeroSl (l.set k x) k = x := fun x => by rw [gr_lt (by simpa using hk), List.getElem_set_self]
 have h0 := st (l) hk 0 (.int .i64 b.mem) a { a with mem := b.mem } ha.symm (by decide) rfl
 have h1 := st (l.set k { a with mem := b.mem }) (by simpa using hk) 1 (.bool b.there) _ { a with mem := b.mem, there := b.there } (gg _) (by decide) rfl
 have h2 := st (l.set k { a with mem := b.mem, there := b.there }) (by simpa using hk) 2 (.int .u64 b.prize) _ { a with mem := b.mem, there := b.there, prize := b.prize } (gg _) (by decide) rfl
 have h3 := st (l.set k { a with mem := b.mem, there := b.there, prize := b.prize }) (by simpa using hk) 3 (.int .u64 b.over) _ { a with mem := b.mem, there := b.there, prize := b.prize, over := b.over } (gg _) (by decide) rfl
 have h4 := st (l.set k { a with mem := b.mem, there := b.there, prize := b.prize, over := b.over }) (by simpa using hk) 4 (.int .u64 b.fine) _ { a with mem := b.mem, there := b.there, prize := b.prize, over := b.over, fine := b.fine } (gg _) (by decide) rfl
 have h5 := st (l.set k { a with mem := b.mem, there := b.there, prize := b.prize, over := b.over, fine := b.fine }) (by simpa using hk) 5 (.int .u64 b.burned) _ { a with mem := b.mem, there := b.there, prize := b.prize, over := b.over, fine := b.fine, burned := b.burned } (gg _) (by decide) rfl
 have h6 := st (l.set k { a with mem := b.mem, there := b.there, prize := b.prize, over := b.over, fine := b.fine, burned := b.burned }) (by simpa using hk) 6 (.int .i64 b.ends) _ { a with mem := b.mem, there := b.there, prize := b.prize, over := b.over, fine := b.fine, burned := b.burned, ends := b.ends } (gg _) (by decide) rfl
 have h7 := st (l.set k { a with mem := b.mem, there := b.there, prize := b.prize, over := b.over, fine := b.fine, burned := b.burned, ends := b.ends }) (by simpa using hk) 7 (.int .u64 b.paid) _ { a with mem := b.mem, there := b.there, prize := b.prize, over := b.over, fine := b.fine, burned := b.burned, ends := b.ends, paid := b.paid } (gg _) (by decide) rfl
 rw [Nat.add_zero] at h0
 rw [List.set_set] at h1 h2 h3 h4 h5 h6 h7
 simp only [Nat.add_assoc, Nat.reduceAdd]
 rw [h0, h1, h2, h3, h4, h5, h6, h7]
theorem thI_mono (l : List MemD) (ks : List Int) {j k : Nat} (hjk : j ≤ k) : (thI l ks j).length ≤ (thI l ks k).length := by
  induction k with
  | zero => have : j = 0 := by omega
            subst this; exact Nat.le_refl _
  | succ k ih =>
    by_cases e : j = k + 1
    · subst e; exact Nat.le_refl _
    · have := ih (by omega)
      rw [thI_succ]
      split
      · rw [List.length_append]; omega
      · exact this
theorem drop16v_any {xs : List Int} (v : Value) (hv : Ints h .i64 v xs) (k : Int) (hl : xs.length ≤ 1000) (hk : ∀ h' r, PH.le h h' → Ints h' .i64 r (flt xs k) → K r L h') : Spec Tryz.prog 49 [v, .int .i64 k] L h K := by
 have hr := hv.2
 obtain ⟨va, vc, rfl, hna, hca, _, hcx⟩ := hv.open
 refine x_enter Tryz.func49 rfl (rs := [_]) rfl rfl mixed (by kernel_rfl) rfl rfl ?_
 simp -dsimp -implicitDefEqProofs (disch := first|with_reducible assumption|omega) [go_sem]
 refine xloop (γ := Nat × Option (Nat × Nat)) (0, none) (fun q => q.1 ≤ xs.length ∧ okO q.2 (flt (xs.take q.1) k).length ∧ apO q.2 L h) (fun q => [(6, .int .i64 q.1), (5, ovs q.2 (flt (xs.take q.1) k).length), (0, .slice va xs.length vc), (1, .int .i64 k)]) (fun q => oent 3 1 q.2 ((flt (xs.take q.1) k).map (.int .i64)) L) (fun _ => h) (fun q => xs.length - q.1) ?_ ?_ ?_ ?_
 ·exact ⟨Nat.zero_le _, rfl, trivial⟩
 ·simp [Ent, List.lookup, xEnv, ovs]
 ·exact Drop.refl _ _
 rintro ⟨j, o⟩ ⟨j1, j2, j3⟩
 simp only at j1 j2 j3 ⊢
 have hfl := flt_len (xs.take j) k
 rw [List.length_take, Nat.min_eq_left j1] at hfl
 by_cases c1 : j < xs.length
 ·have hs := flt_succ (k := k) c1
  by_cases c2 : at0 xs j = k
  ·rw [if_neg (by simpa using c2), List.append_nil] at hs
   simp -dsimp -implicitDefEqProofs (disch := first|with_reducible assumption|omega) [go_sem, idx hcx]
   exact ⟨j + 1, o, ⟨by omega, by rw [hs]; exact j2, j3⟩, by omega, by simp [Ent, List.lookup, hs], by simp only [hs]; exact Drop.refl _ _⟩
  ·rw [if_pos c2] at hs
   simp -dsimp -implicitDefEqProofs (disch := first|with_reducible assumption|omega) [go_sem, idx hcx]
   refine xnew fun bs n_bs h_bs => ?_
   try simp only [Apart] at n_bs
   simp -dsimp -implicitDefEqProofs (disch := first|with_reducible assumption|omega) [go_sem, idx hcx]
   refine xappend (t := 27) (e := 3) (sz := 1) (bytes := 8) (by kernel_rfl) tI_3 rfl rfl rfl rfl (by decide) [_] L o (flt (xs.take j) k).length _ j2 (by simp) (Src.own List.mem_cons_self) (m := 1) (news := [.int .i64 (at0 xs j)]) rfl (fun u hu => by simp at hu; subst hu; rfl) (by simp [maxLen]; omega) (by omega) ?_
   intro o' i1 i2 i3
   simp -dsimp -implicitDefEqProofs (disch := first|with_reducible assumption|omega) [go_sem]
   have hsl : (flt (xs.take (j + 1)) k).length = (flt (xs.take j) k).length + 1 := by rw [hs, List.length_append]; rfl
   refine ⟨j + 1, o', ⟨by omega, by rw [hsl]; exact i1, apO_tail i2⟩, by omega, by simp [Ent, List.lookup, hsl], ?_⟩
   simp only [hs, List.map_append, List.map_cons, List.map_nil]
   exact Drop.tail _ _ _
 ·have hj : j = xs.length := by omega
  subst hj
  rw [List.take_length] at j2 hfl ⊢
  simp -dsimp -implicitDefEqProofs (disch := first|with_reducible assumption|omega) [go_sem]
  refine fin_pub (e := 3) (n := (flt xs k).length) j2 (by simp) (by omega) j3 fun h' le sl => fin_here (hk h' _ le ⟨sl, fun z hz => hr z (List.mem_filter.1 hz).1⟩)
theorem dropB {e sz : Nat} {o : Option (Nat × Nat)} {xs : List Value} {x y : Blk} {L : Own} {h : PH} : Drop (x :: oent e sz o xs (y :: L)) h [x, y] h :=
 (Drop.perm h oent_perm).trans ((Drop.oent _ _ _ _ _ _).trans (drop_left [_, _] _ _))
theorem slips41_any {s : StD} (v : SV) (hs0 : IsSt h v s) (few : FewS s) (fw : FewT s) (fk : s.marks.length ≤ 1000)
  (hk : ∀ h' r, PH.le h h' → Recs slC 8 h' r (slipsL s) → K (.tuple #[r, .int .i64 (slipsE s)]) L h') : Spec Tryz.prog 12 [stV s v] L h K := by
 have hs := hs0
 obtain ⟨pa, pc, ma, mc, ea, ec, xa, xc, oa, oc, da, dc, ta, tc, ka, kc, ra, rc, rfl⟩ := hs.slices
 have nilr : ∀ h', PH.le h h' → ∀ e, slipsE s = e → e ≠ 0 → K (.tuple #[.slice none 0 0, .int .i64 e]) L h' := fun h' le e he hne => by
  have := hk h' (.slice none 0 0) le (by rw [slipsL, if_neg (by rw [he]; exact hne)]; exact Recs.nil slC_len h')
  rwa [he] at this
 refine x_enter Tryz.func12 rfl (rs := [_, _]) rfl rfl mixed (by kernel_rfl) rfl rfl ?_
 simp -dsimp -implicitDefEqProofs (disch := first|with_reducible assumption|omega) [go_sem]
 refine xnew fun b1 n_b1 h_b1 => ?_
 try simp only [Apart] at n_b1
 simp -dsimp -implicitDefEqProofs (disch := first|with_reducible assumption|omega) [go_sem]
 refine Spec.ap (fits24_any (s := s) ⟨.slice pa s.purses.length pc, .slice ma s.members.length mc, .slice ea s.entry.length ec, .slice xa s.exit.length xc, .slice oa s.pool.length oc, .slice da s.dues.length dc, .slice ta s.motions.length tc, .slice ka s.marks.length kc, .slice ra s.ring.length rc⟩ hs0 few fw fun h1 le1 ap => ?_)
 have hb1 : h1 b1 = noC := ap.1
 clear ap
 cases hf : fitsS s with
 | false =>
  have := nilr h1 le1 291 (by rw [slipsE, hf]; rfl) (by decide)
  simp -dsimp -implicitDefEqProofs (disch := first|with_reducible assumption|omega) [go_sem]
  exact fin_tail (fin_here this)
 | true =>
 by_cases c1 : 1073741824 ≤ s.ep
 ·have := nilr h1 le1 200 (by rw [slipsE, hf, if_pos rfl, if_pos c1]) (by decide)
  simp -dsimp -implicitDefEqProofs (disch := first|with_reducible assumption|omega) [go_sem]
  exact fin_tail (fin_here this)
 have he : slipsE s = 0 := by rw [slipsE, hf, if_pos rfl, if_neg c1]
 have hls : slipsL s = (cI s).map (slip2 s) := by rw [slipsL, if_pos he]
 rw [he, hls] at hk
 have H := slH_of hs0 hf
 have hl := H.len
 have hA := actS_b H
 have hP := pre_le (ks := s.marks) H.mo
 have hcalm := H.calm
 have eA : actS s = actL s.members := rfl
 have hch := parR_streak H.r
 simp -dsimp -implicitDefEqProofs (disch := first|with_reducible assumption|omega) [go_sem]
 have hs1 := hs0.up le1
 refine Spec.ap (stakes19_any (l := s.members) (ks := s.marks) _ _ hs1.m H.mo hs1.k (by omega) (by omega) fun h2 le2 ap => ?_)
 have hb2 : h2 b1 = noC := ap.1
 clear ap
 simp -dsimp -implicitDefEqProofs (disch := first|with_reducible assumption|omega) [go_sem]
 refine Spec.ap (step12_any s.calm (preL s.members s.marks) (actL s.members) (by omega) (by omega) (by omega) fun h3 le3 ap => ?_)
 have hb3 : h3 b1 = noC := ap.1
 clear ap
 simp -dsimp -implicitDefEqProofs (disch := first|with_reducible assumption|omega) [go_sem]
 refine of12_any s.par.delay _ s.emer ?_
 simp -dsimp -implicitDefEqProofs (disch := first|with_reducible assumption|omega) [go_sem]
 rw [show modeP s.par.delay (stepP s.calm (preL s.members s.marks) (actL s.members)).1 s.emer = modeS s from rfl, show actL s.members = actS s from rfl]
 have le03 : PH.le h h3 := le1.trans (le2.trans le3)
 have hs3 := hs0.up le03
 have hd3 : Recs memC 6 h3 (.slice ma s.members.length mc) s.members := hs3.m
 have hk3 : Ints h3 .u8 (.slice ka s.marks.length kc) s.marks := hs3.k
 refine xloop (γ := Nat × Option (Nat × Nat)) (0, none) (fun q => q.1 ≤ s.members.length ∧ okO q.2 (thI s.members s.marks q.1).length ∧ apO q.2 (⟨b1, 54, stC s ⟨.slice pa s.purses.length pc, .slice ma s.members.length mc, .slice ea s.entry.length ec, .slice xa s.exit.length xc, .slice oa s.pool.length oc, .slice da s.dues.length dc, .slice ta s.motions.length tc, .slice ka s.marks.length kc, .slice ra s.ring.length rc⟩, 41⟩ :: L) h3)
  (fun q => [(11, .int .i64 q.1), (10, ovs q.2 (thI s.members s.marks q.1).length), (9, .int .i64 (modeS s)), (5, .int .u64 (actS s)), (1, .pointer (some ⟨b1, 0, none⟩))])
  (fun q => oent 108 4 q.2 (thA s q.1) (⟨b1, 54, stC s ⟨.slice pa s.purses.length pc, .slice ma s.members.length mc, .slice ea s.entry.length ec, .slice xa s.exit.length xc, .slice oa s.pool.length oc, .slice da s.dues.length dc, .slice ta s.motions.length tc, .slice ka s.marks.length kc, .slice ra s.ring.length rc⟩, 41⟩ :: L)) (fun _ => h3) (fun q => s.members.length - q.1) ?_ ?_ ?_ ?_
 ·exact ⟨Nat.zero_le _, rfl, trivial⟩
 ·simp [Ent, List.lookup, ovs, thI, cP]
 ·exact Drop.refl _ _
 rintro ⟨k, o⟩ ⟨i1, i2, i3⟩
 simp only [stC, List.cons_append, List.nil_append] at i1 i2 i3 ⊢
 have mo1 : apB o b1 := i3.head
 by_cases c2 : k < s.members.length
 ·have hts := thI_succ s.members s.marks k
  have htl := thI_len s.members s.marks k
  have hmo : MemOk (gr zeroM s.members k) := H.mo _ (by rw [gr_lt c2]; exact List.getElem_mem c2)
  have f0 := fun (L : Own) (K : Value → Prop) (t : Tok K) => hd3.cel zeroM c2 (m := 0) (by decide) (u := .int .u64 (gr zeroM s.members k).bal) rfl L K t
  have f1 := fun (L : Own) (K : Value → Prop) (t : Tok K) => hd3.cel zeroM c2 (m := 1) (by decide) (u := .int .u64 (gr zeroM s.members k).eff) rfl L K t
  have f2 := fun (L : Own) (K : Value → Prop) (t : Tok K) => hd3.cel zeroM c2 (m := 2) (by decide) (u := .int .u64 (gr zeroM s.members k).score) rfl L K t
  have f3 := fun (L : Own) (K : Value → Prop) (t : Tok K) => hd3.cel zeroM c2 (m := 3) (by decide) (u := .int .i64 (gr zeroM s.members k).streak) rfl L K t
  simp -dsimp -implicitDefEqProofs (disch := first|with_reducible assumption|omega) [go_sem, xFind_oent mo1, ↓idxR zeroM (by decide) hd3, memC]
  refine counts19_any (gr zeroM s.members k) ?_
  by_cases c3 : cntB (gr zeroM s.members k) = true
  ·have c3' : (gr zeroM s.members k).status = 2 ∨ (gr zeroM s.members k).status = 3 := by simpa [cntB] using c3
   rw [decide_eq_true c3']
   rw [c3, Bool.true_and] at hts
   simp -dsimp -implicitDefEqProofs (disch := first|with_reducible assumption|omega) [go_sem, xFind_oent mo1]
   refine rget_any (bs := s.marks) _ k hk3 (by omega) ?_
   by_cases c4 : getB s.marks k = true
   ·rw [if_pos c4] at hts
    rw [c4]
    have en : afterM s.par (gr zeroM s.members k) true (modeS s) = nowM s k := by unfold nowM thB; rw [c4]
    have e1 : thA s k ++ sdC (nowM s k) = thA s (k + 1) := by unfold thA; rw [hts, List.map_append, List.flatMap_append]; simp
    have e3 : (thI s.members s.marks k).length + 1 = (thI s.members s.marks (k + 1)).length := by rw [hts]; simp
    simp -dsimp -implicitDefEqProofs (disch := first|with_reducible assumption|omega) [go_sem]
    refine xanyl (.tk 0 (.tk 1 (.tk 3 (.tk 5 (.tk 9 (.tkl 2 (.tkl 4 (.tk 6 (.tk 7 (.tkl 8 (.or true 10 (.or true 11 (.or true 12 (.tk 13 (.fin)) (.nil)) (.nil)) (.nil)))))))))))) (by kernel_rfl) (by kernel_rfl) [⟨b1, 54, stC s ⟨.slice pa s.purses.length pc, .slice ma s.members.length mc, .slice ea s.entry.length ec, .slice xa s.exit.length xc, .slice oa s.pool.length oc, .slice da s.dues.length dc, .slice ta s.motions.length tc, .slice ka s.marks.length kc, .slice ra s.ring.length rc⟩, 41⟩] ((Drop.oent _ _ _ _ _ _).trans (drop_left [_] _ _)) ?_
    simp only [stC, List.cons_append, List.nil_append]
    simp -dsimp -implicitDefEqProofs (disch := first|with_reducible assumption|omega) [go_sem, xFind_oent mo1, ↓idxR zeroM (by decide) hd3, memC, ↓f0, ↓f1, ↓f2, ↓f3]
    refine after11_any s.par H.ok H.r (gr zeroM s.members k) hmo true (modeS s) ?_
    rw [en]
    refine xkp ((Drop.oent _ _ _ _ _ _).trans (drop_left [_] _ _)) ?_
    simp -dsimp -implicitDefEqProofs (disch := first|with_reducible assumption|omega) [go_sem]
    refine xnew fun b7 n_b7 h_b7 => ?_
    try simp only [Apart] at n_b7
    refine xkp ((Drop.tail _ _ _).trans ((Drop.oent _ _ _ _ _ _).trans (drop_left [_] _ _))) ?_
    simp -dsimp -implicitDefEqProofs (disch := first|with_reducible assumption|omega) [go_sem]
    refine xappend (t := 106) (e := 108) (sz := 4) (bytes := 32) (by kernel_rfl) tI_108 rfl rfl rfl rfl (by decide) [_] _ o (thI s.members s.marks k).length (thA s k) i2 (thA_len _ _) (Src.own List.mem_cons_self) (m := 1) (news := sdC (nowM s k)) rfl (by intro u hu; simp only [sdC, List.mem_cons, List.not_mem_nil, or_false] at hu; rcases hu with rfl | rfl | rfl | rfl <;> rfl) (by simp [maxLen]; omega) (by omega) ?_
    intro o' j1 j2 j3
    rw [e3] at j1
    rw [e1, e3]
    refine xkp ((Drop.tail _ _ _).trans ((Drop.oent _ _ _ _ _ _).trans (drop_left [_] _ _))) ?_
    simp -dsimp -implicitDefEqProofs (disch := first|with_reducible assumption|omega) [go_sem]
    exact ⟨k + 1, o', ⟨by omega, j1, apO_tail j2⟩, by omega, by simp [Ent, List.lookup], Drop.tail _ _ _⟩
   ·rw [if_neg c4] at hts
    rw [show getB s.marks k = false by simpa using c4]
    simp -dsimp -implicitDefEqProofs (disch := first|with_reducible assumption|omega) [go_sem]
    refine ⟨k + 1, o, ⟨by omega, by rw [hts]; exact i2, i3⟩, by omega, by simp [Ent, List.lookup, hts], ?_⟩
    unfold thA
    rw [hts]
    exact Drop.refl _ _
  ·have c3' : ¬ ((gr zeroM s.members k).status = 2 ∨ (gr zeroM s.members k).status = 3) := by simpa [cntB] using c3
   rw [decide_eq_false c3']
   rw [show cntB (gr zeroM s.members k) = false by simpa using c3, Bool.false_and] at hts
   simp only [Bool.false_eq_true, if_false] at hts
   simp -dsimp -implicitDefEqProofs (disch := first|with_reducible assumption|omega) [go_sem]
   refine ⟨k + 1, o, ⟨by omega, by rw [hts]; exact i2, i3⟩, by omega, by simp [Ent, List.lookup, hts], ?_⟩
   unfold thA
   rw [hts]
   exact Drop.refl _ _
 obtain rfl : s.members.length = k := by omega
 clear c2 i1
 simp -dsimp -implicitDefEqProofs (disch := first|with_reducible assumption|omega) [go_sem, xFind_oent mo1]
 refine xanyl (.tk 0 (.tk 2 (.tk 3 (.tk 5 (.tk 8 (.tk 10 (.tkl 1 (.tkl 4 (.tkl 6 (.tk 7 (.tkl 9 (.or true 11 (.or true 12 (.tk 13 (.fin)) (.nil)) (.nil))))))))))))) (by kernel_rfl) (by kernel_rfl) [⟨b1, 54, stC s ⟨.slice pa s.purses.length pc, .slice ma s.members.length mc, .slice ea s.entry.length ec, .slice xa s.exit.length xc, .slice oa s.pool.length oc, .slice da s.dues.length dc, .slice ta s.motions.length tc, .slice ka s.marks.length kc, .slice ra s.ring.length rc⟩, 41⟩] ((Drop.oent _ _ _ _ _ _).trans (drop_left [_] _ _)) ?_
 simp only [stC, List.cons_append, List.nil_append]
 have hgm := H.gm
 have hmost := H.most
 simp -dsimp -implicitDefEqProofs (disch := first|with_reducible assumption|omega) [go_sem, xFind_oent mo1]
 refine leaks11_any (modeS s) ?_
 obtain ⟨lk, hlk⟩ : ∃ lk, lk = decide (modeS s = 3 ∨ modeS s = 4) := ⟨_, rfl⟩
 rw [← hlk]
 refine xkp ((Drop.oent _ _ _ _ _ _).trans (drop_left [_] _ _)) ?_
 simp -dsimp -implicitDefEqProofs (disch := first|with_reducible assumption|omega) [go_sem]
 rw [hlk]
 refine Spec.ap (mint13_any s.par H.ok (actS s) (s.gen + s.mint) s.most (modeS s) (by omega) (by omega) (by omega) fun h4 le4 ap => ?_)
 rw [show mintP s.par (actS s) (s.gen + s.mint) s.most (modeS s) = mintS s from rfl]
 have hb4 : h4 b1 = noC := (Ap.oent ap).1
 clear ap
 refine xkp ((Drop.forget le4).trans ((Drop.oent _ _ _ _ _ _).trans (drop_left [_] _ _))) ?_
 have hmb := mintS_b H
 have htl := thI_len s.members s.marks s.members.length
 simp -dsimp -implicitDefEqProofs (disch := first|with_reducible assumption|omega) [go_sem, xFind_oent mo1]
 refine call_pub_o (n := (thI s.members s.marks s.members.length).length) [] i2 (thA_len _ _) (by omega) (fun h5 le5 sl5 => ?_) ⟨Tryz.f45, Tryz.func45, by decide +kernel, rfl⟩
 have rec5 : Recs sdC 4 h5 (ovs o (thI s.members s.marks s.members.length).length) ((thI s.members s.marks s.members.length).map (nowM s)) := by
  refine ⟨sdC_len, ?_⟩
  rw [List.length_map]
  exact sl5
 refine Spec.ap (prizes14_any s.par H.ok H.r _ rec5 (thM_ok H) (by rw [List.length_map]; omega) (mintS s) hmb fun h6 r6 le6 i6 ap => ?_)
 have hb6 : h6 b1 = noC := ap.1
 clear ap
 rw [← partsS_eq] at i6
 have hpl := partsS_len s
 obtain ⟨pa0, pc0, rfl, hpc0, _, _, hcsP6⟩ := i6.open
 have le06 : PH.le h h6 := le03.trans (le4.trans (le5.trans le6))
 clear i2 i3 mo1 sl5 rec5
 simp only [List.nil_append]
 simp -dsimp -implicitDefEqProofs (disch := first|with_reducible assumption|omega) [go_sem]
 refine xloop (γ := Nat × Option (Nat × Nat) × Option Addr × Nat × PH) (0, none, xa, xc, h6) (fun q => q.1 ≤ s.members.length ∧ okO q.2.1 (cP s.members q.1).length ∧ Ints q.2.2.2.2 .i64 (.slice q.2.2.1 (exA s q.1).length q.2.2.2.1) (exA s q.1) ∧ PH.le h6 q.2.2.2.2 ∧ q.2.2.2.2 b1 = noC ∧ apB q.2.1 b1)
  (fun q => [(18, .int .i64 q.1), (17, .int .i64 (thI s.members s.marks q.1).length), (16, .slice q.2.2.1 (exA s q.1).length q.2.2.2.1), (15, ovs q.2.1 (cP s.members q.1).length), (13, .slice pa0 (partsS s).length pc0), (9, .int .i64 (modeS s)), (1, .pointer (some ⟨b1, 0, none⟩))])
  (fun q => oent 56 8 q.2.1 (ouA s q.1) (⟨b1, 54, stC s ⟨.slice pa s.purses.length pc, .slice ma s.members.length mc, .slice ea s.entry.length ec, .slice xa s.exit.length xc, .slice oa s.pool.length oc, .slice da s.dues.length dc, .slice ta s.motions.length tc, .slice ka s.marks.length kc, .slice ra s.ring.length rc⟩, 41⟩ :: L)) (fun q => q.2.2.2.2) (fun q => s.members.length - q.1) ?_ ?_ ?_ ?_
 ·exact ⟨Nat.zero_le _, rfl, (hs0.up le06).x, PH.le_refl _, hb6, trivial⟩
 ·simp [Ent, List.lookup, ovs, thI, cP, exA, exF]
 ·exact Drop.refl _ _
 rintro ⟨k, o, ea, ec, hh⟩ ⟨i1, i2, i3, i4, i5, mo1⟩
 simp only [stC, List.cons_append, List.nil_append] at i1 i2 i3 i4 i5 mo1 ⊢
 by_cases c2 : k < s.members.length
 ·have hts := thI_succ s.members s.marks k
  have htl := thI_len s.members s.marks k
  have htm := thI_mono s.members s.marks (show k + 1 ≤ s.members.length from c2)
  have hcs := cP_succ s.members k
  have hcl := cP_len s.members k
  have hex := exA_succ s k
  have hxl := (exA_sub s k).length_le
  have hxl2 := H.xl
  have hmo : MemOk (gr zeroM s.members k) := H.mo _ (by rw [gr_lt c2]; exact List.getElem_mem c2)
  have hno := now_ok H c2
  have hfb := fineS_b H c2
  have hpb := prize_b H k
  have hsh := hs0.up (le06.trans i4)
  have hdh : Recs memC 6 hh (.slice ma s.members.length mc) s.members := hsh.m
  have hkh : Ints hh .u8 (.slice ka s.marks.length kc) s.marks := hsh.k
  have hcsP : ∀ x, x < (partsS s).length → elemCell hh pa0 x = some (.int .u64 (at0 (partsS s) x)) := fun x hx => elemCell_up i4 (hcsP6 x hx)
  have f0 := fun (L : Own) (K : Value → Prop) (t : Tok K) => hdh.cel zeroM c2 (m := 0) (by decide) (u := .int .u64 (gr zeroM s.members k).bal) rfl L K t
  have f1 := fun (L : Own) (K : Value → Prop) (t : Tok K) => hdh.cel zeroM c2 (m := 1) (by decide) (u := .int .u64 (gr zeroM s.members k).eff) rfl L K t
  have f2 := fun (L : Own) (K : Value → Prop) (t : Tok K) => hdh.cel zeroM c2 (m := 2) (by decide) (u := .int .u64 (gr zeroM s.members k).score) rfl L K t
  have f3 := fun (L : Own) (K : Value → Prop) (t : Tok K) => hdh.cel zeroM c2 (m := 3) (by decide) (u := .int .i64 (gr zeroM s.members k).streak) rfl L K t
  simp -dsimp -implicitDefEqProofs (disch := first|with_reducible assumption|omega) [go_sem, xFind_oent mo1, ↓idxR zeroM (by decide) hdh, memC]
  refine counts19_any (gr zeroM s.members k) ?_
  by_cases c3 : cntB (gr zeroM s.members k) = true
  ·have c3' : (gr zeroM s.members k).status = 2 ∨ (gr zeroM s.members k).status = 3 := by simpa [cntB] using c3
   rw [decide_eq_true c3']
   rw [if_pos c3] at hcs hex
   rw [c3, Bool.true_and] at hts
   have e1 : ouA s k ++ slC (slipR s k) = ouA s (k + 1) := by unfold ouA; rw [hcs, List.map_append, List.flatMap_append]; simp
   have e3 : (cP s.members k).length + 1 = (cP s.members (k + 1)).length := by rw [hcs]; simp
   simp -dsimp -implicitDefEqProofs (disch := first|with_reducible assumption|omega) [go_sem, xFind_oent mo1]
   refine rget_any (bs := s.marks) _ k hkh (by omega) ?_
   simp -dsimp -implicitDefEqProofs (disch := first|with_reducible assumption|omega) [go_sem]
   refine xnew fun b19 n_b19 h_b19 => ?_
   try simp only [Apart] at n_b19
   have nb19 : b1 ≠ b19 := (apart_oent n_b19).1
   clear n_b19
   simp -dsimp -implicitDefEqProofs (disch := first|with_reducible assumption|omega) [go_sem]
   cases c4 : getB s.marks k with
   | true =>
    rw [if_pos c4] at hts
    have en : afterM s.par (gr zeroM s.members k) true (modeS s) = nowM s k := by unfold nowM thB; rw [c4]
    refine xanyl (.tk 0 (.tk 2 (.tk 4 (.tk 8 (.tk 10 (.tkl 1 (.tkl 3 (.tk 5 (.tk 6 (.tkl 7 (.tkl 9 (.or true 11 (.or true 12 (.or false 13 (.fin) (.nil)) (.nil)) (.or true 12 (.or true 11 (.or false 13 (.fin) (.nil)) (.nil)) (.nil)))))))))))))) (by kernel_rfl) (by kernel_rfl) _ dropB ?_
    simp -dsimp -implicitDefEqProofs (disch := first|with_reducible assumption|omega) [go_sem, xFind_oent mo1, ↓idxR zeroM (by decide) hdh, memC, ↓f0, ↓f1, ↓f2, ↓f3]
    refine xpl_or ?_ ?_
    ·simp -dsimp -implicitDefEqProofs (disch := first|with_reducible assumption|omega) [go_sem]
     refine after11_any s.par H.ok H.r (gr zeroM s.members k) hmo true (modeS s) ?_
     rw [en]
     refine xkp dropB ?_
     simp -dsimp -implicitDefEqProofs (disch := first|with_reducible assumption|omega) [go_sem]
     refine xnew fun b20 n_b20 h_b20 => ?_
     try simp only [Apart] at n_b20
     have nb20 : b19 ≠ b20 ∧ b1 ≠ b20 := ⟨n_b20.1, (apart_oent n_b20.2).1⟩
     clear n_b20
     refine xkp ((Drop.tail _ _ _).trans dropB) ?_
     simp -dsimp -implicitDefEqProofs (disch := first|with_reducible assumption|omega) [go_sem]
     have htl1 : (thI s.members s.marks k).length < (partsS s).length := by
      rw [hts, List.length_append] at htm
      simp only [List.length_singleton] at htm
      omega
     simp -dsimp -implicitDefEqProofs (disch := first|with_reducible assumption|omega) [go_sem, xFind_oent mo1, idx hcsP, show at0 (partsS s) (thI s.members s.marks k).length = prizeS s k from rfl]
     refine pay14_any s.par H.ok (nowM s k) hno (prizeS s k) hpb ?_
     rw [show payM s.par (nowM s k) (prizeS s k) = payS s k from rfl]
     simp -dsimp -implicitDefEqProofs (disch := first|with_reducible assumption|omega) [go_sem, xFind_oent mo1]
     have q1 : slip1 s k = ⟨k, true, prizeS s k, (payS s k).2, 0, 0, 0, 0⟩ := by rw [slip1, if_pos (show thB s k = true from c4)]
     have q2 : endM' s k = (payS s k).1 := by rw [endM', if_pos (show thB s k = true from c4)]
     by_cases c5 : (payS s k).1.bal ≤ s.par.floor
     ·have co : outB s k = true := decide_eq_true (by rw [q2]; exact c5)
      rw [if_pos co] at hex
      have hV : slC (slipR s k) = [.int .i64 k, .bool true, .int .u64 (prizeS s k), .int .u64 (payS s k).2, .int .u64 0, .int .u64 0, .int .i64 4, .int .u64 (payS s k).1.bal] := by rw [slipR, q1, q2, co]; rfl
      simp -dsimp -implicitDefEqProofs (disch := first|with_reducible assumption|omega) [go_sem, xFind_oent mo1]
      refine Spec.ap (drop16v_any _ (i3.up (PH.le_refl hh)) k (by omega) fun h9 r9 le9 i9 ap => ?_)
      have hb19b : h9 b19 = noC := ap.2.1
      have hb20b : h9 b20 = noC := ap.1
      have hb1b : h9 b1 = noC := (Ap.oent ap.2.2).1
      clear ap
      obtain ⟨ra, rc, rfl, _⟩ := i9.open
      simp -dsimp -implicitDefEqProofs (disch := first|with_reducible assumption|omega) [go_sem, xFind_oent mo1]
      refine xnew fun b21 n_b21 h_b21 => ?_
      try simp only [Apart] at n_b21
      simp -dsimp -implicitDefEqProofs (disch := first|with_reducible assumption|omega) [go_sem]
      refine xappend (t := 45) (e := 56) (sz := 8) (bytes := 64) (by kernel_rfl) tI_56 rfl rfl rfl rfl (by decide) [_, _, _] _ o (cP s.members k).length (ouA s k) i2 (ouA_len _ _) (Src.own List.mem_cons_self) (m := 1) (news := [.int .i64 k, .bool true, .int .u64 (prizeS s k), .int .u64 (payS s k).2, .int .u64 0, .int .u64 0, .int .i64 4, .int .u64 (payS s k).1.bal]) rfl (by intro u hu; simp only [List.mem_cons, List.not_mem_nil, or_false] at hu; rcases hu with rfl | rfl | rfl | rfl | rfl | rfl | rfl | rfl <;> rfl) (by simp [maxLen]; omega) (by omega) ?_
      intro o' j1 j2 j3
      rw [e3] at j1
      rw [← hV, e1, e3]
      simp -dsimp -implicitDefEqProofs (disch := first|with_reducible assumption|omega) [go_sem]
      exact ⟨k + 1, o', ra, rc, h9, ⟨by omega, j1, by rw [hex]; exact i9, i4.trans (((PH.le_refl hh)).trans le9), hb1b, (apO_tail (apO_tail (apO_tail j2))).head⟩, by omega, by simp [Ent, List.lookup, hts, hex], (Drop.tail _ _ _).trans ((Drop.tail _ _ _).trans (Drop.tail _ _ _))⟩
     ·have co : outB s k = false := decide_eq_false (by rw [q2]; exact c5)
      rw [co, if_neg (by decide)] at hex
      have hV : slC (slipR s k) = [.int .i64 k, .bool true, .int .u64 (prizeS s k), .int .u64 (payS s k).2, .int .u64 0, .int .u64 0, .int .i64 0, .int .u64 (payS s k).1.bal] := by rw [slipR, q1, q2, co]; rfl
      simp -dsimp -implicitDefEqProofs (disch := first|with_reducible assumption|omega) [go_sem, xFind_oent mo1]
      refine xnew fun b21 n_b21 h_b21 => ?_
      try simp only [Apart] at n_b21
      simp -dsimp -implicitDefEqProofs (disch := first|with_reducible assumption|omega) [go_sem]
      refine xappend (t := 45) (e := 56) (sz := 8) (bytes := 64) (by kernel_rfl) tI_56 rfl rfl rfl rfl (by decide) [_, _, _] _ o (cP s.members k).length (ouA s k) i2 (ouA_len _ _) (Src.own List.mem_cons_self) (m := 1) (news := [.int .i64 k, .bool true, .int .u64 (prizeS s k), .int .u64 (payS s k).2, .int .u64 0, .int .u64 0, .int .i64 0, .int .u64 (payS s k).1.bal]) rfl (by intro u hu; simp only [List.mem_cons, List.not_mem_nil, or_false] at hu; rcases hu with rfl | rfl | rfl | rfl | rfl | rfl | rfl | rfl <;> rfl) (by simp [maxLen]; omega) (by omega) ?_
      intro o' j1 j2 j3
      rw [e3] at j1
      rw [← hV, e1, e3]
      simp -dsimp -implicitDefEqProofs (disch := first|with_reducible assumption|omega) [go_sem]
      exact ⟨k + 1, o', ea, ec, hh, ⟨by omega, j1, by rw [hex]; exact i3.up (PH.le_refl hh), i4.trans ((PH.le_refl hh)), i5, (apO_tail (apO_tail (apO_tail j2))).head⟩, by omega, by simp [Ent, List.lookup, hts, hex], (Drop.tail _ _ _).trans ((Drop.tail _ _ _).trans (Drop.tail _ _ _))⟩
    ·simp -dsimp -implicitDefEqProofs (disch := first|with_reducible assumption|omega) [go_sem]
     refine xnew fun b20 n_b20 h_b20 => ?_
     try simp only [Apart] at n_b20
     have nb20 : b19 ≠ b20 ∧ b1 ≠ b20 := ⟨n_b20.1, (apart_oent n_b20.2).1⟩
     clear n_b20
     refine xkp ((Drop.tail _ _ _).trans dropB) ?_
     simp -dsimp -implicitDefEqProofs (disch := first|with_reducible assumption|omega) [go_sem]
     refine after11_any s.par H.ok H.r (gr zeroM s.members k) hmo true (modeS s) ?_
     rw [en]
     refine xkp ((Drop.tail _ _ _).trans dropB) ?_
     simp -dsimp -implicitDefEqProofs (disch := first|with_reducible assumption|omega) [go_sem]
     have htl1 : (thI s.members s.marks k).length < (partsS s).length := by
      rw [hts, List.length_append] at htm
      simp only [List.length_singleton] at htm
      omega
     simp -dsimp -implicitDefEqProofs (disch := first|with_reducible assumption|omega) [go_sem, xFind_oent mo1, idx hcsP, show at0 (partsS s) (thI s.members s.marks k).length = prizeS s k from rfl]
     refine pay14_any s.par H.ok (nowM s k) hno (prizeS s k) hpb ?_
     rw [show payM s.par (nowM s k) (prizeS s k) = payS s k from rfl]
     simp -dsimp -implicitDefEqProofs (disch := first|with_reducible assumption|omega) [go_sem, xFind_oent mo1]
     have q1 : slip1 s k = ⟨k, true, prizeS s k, (payS s k).2, 0, 0, 0, 0⟩ := by rw [slip1, if_pos (show thB s k = true from c4)]
     have q2 : endM' s k = (payS s k).1 := by rw [endM', if_pos (show thB s k = true from c4)]
     by_cases c5 : (payS s k).1.bal ≤ s.par.floor
     ·have co : outB s k = true := decide_eq_true (by rw [q2]; exact c5)
      rw [if_pos co] at hex
      have hV : slC (slipR s k) = [.int .i64 k, .bool true, .int .u64 (prizeS s k), .int .u64 (payS s k).2, .int .u64 0, .int .u64 0, .int .i64 4, .int .u64 (payS s k).1.bal] := by rw [slipR, q1, q2, co]; rfl
      simp -dsimp -implicitDefEqProofs (disch := first|with_reducible assumption|omega) [go_sem, xFind_oent mo1]
      refine Spec.ap (drop16v_any _ (i3.up (PH.le_refl hh)) k (by omega) fun h9 r9 le9 i9 ap => ?_)
      have hb19b : h9 b19 = noC := ap.2.1
      have hb20b : h9 b20 = noC := ap.1
      have hb1b : h9 b1 = noC := (Ap.oent ap.2.2).1
      clear ap
      obtain ⟨ra, rc, rfl, _⟩ := i9.open
      simp -dsimp -implicitDefEqProofs (disch := first|with_reducible assumption|omega) [go_sem, xFind_oent mo1]
      refine xnew fun b21 n_b21 h_b21 => ?_
      try simp only [Apart] at n_b21
      simp -dsimp -implicitDefEqProofs (disch := first|with_reducible assumption|omega) [go_sem]
      refine xappend (t := 45) (e := 56) (sz := 8) (bytes := 64) (by kernel_rfl) tI_56 rfl rfl rfl rfl (by decide) [_, _, _] _ o (cP s.members k).length (ouA s k) i2 (ouA_len _ _) (Src.own List.mem_cons_self) (m := 1) (news := [.int .i64 k, .bool true, .int .u64 (prizeS s k), .int .u64 (payS s k).2, .int .u64 0, .int .u64 0, .int .i64 4, .int .u64 (payS s k).1.bal]) rfl (by intro u hu; simp only [List.mem_cons, List.not_mem_nil, or_false] at hu; rcases hu with rfl | rfl | rfl | rfl | rfl | rfl | rfl | rfl <;> rfl) (by simp [maxLen]; omega) (by omega) ?_
      intro o' j1 j2 j3
      rw [e3] at j1
      rw [← hV, e1, e3]
      simp -dsimp -implicitDefEqProofs (disch := first|with_reducible assumption|omega) [go_sem]
      exact ⟨k + 1, o', ra, rc, h9, ⟨by omega, j1, by rw [hex]; exact i9, i4.trans (((PH.le_refl hh)).trans le9), hb1b, (apO_tail (apO_tail (apO_tail j2))).head⟩, by omega, by simp [Ent, List.lookup, hts, hex], (Drop.tail _ _ _).trans ((Drop.tail _ _ _).trans (Drop.tail _ _ _))⟩
     ·have co : outB s k = false := decide_eq_false (by rw [q2]; exact c5)
      rw [co, if_neg (by decide)] at hex
      have hV : slC (slipR s k) = [.int .i64 k, .bool true, .int .u64 (prizeS s k), .int .u64 (payS s k).2, .int .u64 0, .int .u64 0, .int .i64 0, .int .u64 (payS s k).1.bal] := by rw [slipR, q1, q2, co]; rfl
      simp -dsimp -implicitDefEqProofs (disch := first|with_reducible assumption|omega) [go_sem, xFind_oent mo1]
      refine xnew fun b21 n_b21 h_b21 => ?_
      try simp only [Apart] at n_b21
      simp -dsimp -implicitDefEqProofs (disch := first|with_reducible assumption|omega) [go_sem]
      refine xappend (t := 45) (e := 56) (sz := 8) (bytes := 64) (by kernel_rfl) tI_56 rfl rfl rfl rfl (by decide) [_, _, _] _ o (cP s.members k).length (ouA s k) i2 (ouA_len _ _) (Src.own List.mem_cons_self) (m := 1) (news := [.int .i64 k, .bool true, .int .u64 (prizeS s k), .int .u64 (payS s k).2, .int .u64 0, .int .u64 0, .int .i64 0, .int .u64 (payS s k).1.bal]) rfl (by intro u hu; simp only [List.mem_cons, List.not_mem_nil, or_false] at hu; rcases hu with rfl | rfl | rfl | rfl | rfl | rfl | rfl | rfl <;> rfl) (by simp [maxLen]; omega) (by omega) ?_
      intro o' j1 j2 j3
      rw [e3] at j1
      rw [← hV, e1, e3]
      simp -dsimp -implicitDefEqProofs (disch := first|with_reducible assumption|omega) [go_sem]
      exact ⟨k + 1, o', ea, ec, hh, ⟨by omega, j1, by rw [hex]; exact i3.up (PH.le_refl hh), i4.trans ((PH.le_refl hh)), i5, (apO_tail (apO_tail (apO_tail j2))).head⟩, by omega, by simp [Ent, List.lookup, hts, hex], (Drop.tail _ _ _).trans ((Drop.tail _ _ _).trans (Drop.tail _ _ _))⟩
   | false =>
    rw [if_neg (by rw [c4]; decide)] at hts
    have en : afterM s.par (gr zeroM s.members k) false (modeS s) = nowM s k := by unfold nowM thB; rw [c4]
    refine xanyl (.tk 0 (.tk 2 (.tk 4 (.tk 8 (.tk 10 (.tkl 1 (.tkl 3 (.tk 5 (.tk 6 (.tkl 7 (.tkl 9 (.or true 11 (.or true 12 (.or false 13 (.fin) (.nil)) (.nil)) (.or true 12 (.or true 11 (.or false 13 (.fin) (.nil)) (.nil)) (.nil)))))))))))))) (by kernel_rfl) (by kernel_rfl) _ dropB ?_
    simp -dsimp -implicitDefEqProofs (disch := first|with_reducible assumption|omega) [go_sem, xFind_oent mo1, ↓idxR zeroM (by decide) hdh, memC, ↓f0, ↓f1, ↓f2, ↓f3]
    refine xpl_or ?_ ?_
    ·simp -dsimp -implicitDefEqProofs (disch := first|with_reducible assumption|omega) [go_sem]
     refine after11_any s.par H.ok H.r (gr zeroM s.members k) hmo false (modeS s) ?_
     rw [en]
     refine xkp dropB ?_
     simp -dsimp -implicitDefEqProofs (disch := first|with_reducible assumption|omega) [go_sem]
     refine xnew fun b20 n_b20 h_b20 => ?_
     try simp only [Apart] at n_b20
     have nb20 : b19 ≠ b20 ∧ b1 ≠ b20 := ⟨n_b20.1, (apart_oent n_b20.2).1⟩
     clear n_b20
     refine xkp ((Drop.tail _ _ _).trans dropB) ?_
     simp -dsimp -implicitDefEqProofs (disch := first|with_reducible assumption|omega) [go_sem]
     simp -dsimp -implicitDefEqProofs (disch := first|with_reducible assumption|omega) [go_sem, xFind_oent mo1]
     refine Spec.ap (fine15_any s.par H.ok H.r (nowM s k) hno (modeS s) fun h7 le7 ap => ?_)
     rw [show fineP s.par (nowM s k) (modeS s) = fineS s k from rfl]
     have hb20a : h7 b20 = noC := ap.1
     have hb19a : h7 b19 = noC := ap.2.1
     have hb1a : h7 b1 = noC := (Ap.oent ap.2.2).1
     clear ap
     simp -dsimp -implicitDefEqProofs (disch := first|with_reducible assumption|omega) [go_sem, xFind_oent mo1]
     refine Spec.ap (burn15_any s.par H.ok H.r (fineS s k) (by omega) fun h8 le8 ap => ?_)
     have hb20c : h8 b20 = noC := ap.1
     have hb19c : h8 b19 = noC := ap.2.1
     have hb1c : h8 b1 = noC := (Ap.oent ap.2.2).1
     clear ap
     simp -dsimp -implicitDefEqProofs (disch := first|with_reducible assumption|omega) [go_sem, xFind_oent mo1]
     have q1 : slip1 s k = ⟨k, false, 0, 0, fineS s k, burnP s.par (fineS s k), 0, 0⟩ := by rw [slip1, if_neg (by show ¬ getB s.marks k = true; rw [c4]; decide)]
     have q2 : endM' s k = { nowM s k with bal := (nowM s k).bal - fineS s k } := by rw [endM', if_neg (by show ¬ getB s.marks k = true; rw [c4]; decide)]
     by_cases c5 : ((nowM s k).bal - fineS s k) ≤ s.par.floor
     ·have co : outB s k = true := decide_eq_true (by rw [q2]; exact c5)
      rw [if_pos co] at hex
      have hV : slC (slipR s k) = [.int .i64 k, .bool false, .int .u64 0, .int .u64 0, .int .u64 (fineS s k), .int .u64 (burnP s.par (fineS s k)), .int .i64 4, .int .u64 ((nowM s k).bal - fineS s k)] := by rw [slipR, q1, q2, co]; rfl
      simp -dsimp -implicitDefEqProofs (disch := first|with_reducible assumption|omega) [go_sem, xFind_oent mo1]
      refine Spec.ap (drop16v_any _ (i3.up (le7.trans le8)) k (by omega) fun h9 r9 le9 i9 ap => ?_)
      have hb19b : h9 b19 = noC := ap.2.1
      have hb20b : h9 b20 = noC := ap.1
      have hb1b : h9 b1 = noC := (Ap.oent ap.2.2).1
      clear ap
      obtain ⟨ra, rc, rfl, _⟩ := i9.open
      simp -dsimp -implicitDefEqProofs (disch := first|with_reducible assumption|omega) [go_sem, xFind_oent mo1]
      refine xnew fun b21 n_b21 h_b21 => ?_
      try simp only [Apart] at n_b21
      simp -dsimp -implicitDefEqProofs (disch := first|with_reducible assumption|omega) [go_sem]
      refine xappend (t := 45) (e := 56) (sz := 8) (bytes := 64) (by kernel_rfl) tI_56 rfl rfl rfl rfl (by decide) [_, _, _] _ o (cP s.members k).length (ouA s k) i2 (ouA_len _ _) (Src.own List.mem_cons_self) (m := 1) (news := [.int .i64 k, .bool false, .int .u64 0, .int .u64 0, .int .u64 (fineS s k), .int .u64 (burnP s.par (fineS s k)), .int .i64 4, .int .u64 ((nowM s k).bal - fineS s k)]) rfl (by intro u hu; simp only [List.mem_cons, List.not_mem_nil, or_false] at hu; rcases hu with rfl | rfl | rfl | rfl | rfl | rfl | rfl | rfl <;> rfl) (by simp [maxLen]; omega) (by omega) ?_
      intro o' j1 j2 j3
      rw [e3] at j1
      rw [← hV, e1, e3]
      simp -dsimp -implicitDefEqProofs (disch := first|with_reducible assumption|omega) [go_sem]
      exact ⟨k + 1, o', ra, rc, h9, ⟨by omega, j1, by rw [hex]; exact i9, i4.trans (((le7.trans le8)).trans le9), hb1b, (apO_tail (apO_tail (apO_tail j2))).head⟩, by omega, by simp [Ent, List.lookup, hts, hex], (Drop.tail _ _ _).trans ((Drop.tail _ _ _).trans (Drop.tail _ _ _))⟩
     ·have co : outB s k = false := decide_eq_false (by rw [q2]; exact c5)
      rw [co, if_neg (by decide)] at hex
      have hV : slC (slipR s k) = [.int .i64 k, .bool false, .int .u64 0, .int .u64 0, .int .u64 (fineS s k), .int .u64 (burnP s.par (fineS s k)), .int .i64 0, .int .u64 ((nowM s k).bal - fineS s k)] := by rw [slipR, q1, q2, co]; rfl
      simp -dsimp -implicitDefEqProofs (disch := first|with_reducible assumption|omega) [go_sem, xFind_oent mo1]
      refine xnew fun b21 n_b21 h_b21 => ?_
      try simp only [Apart] at n_b21
      simp -dsimp -implicitDefEqProofs (disch := first|with_reducible assumption|omega) [go_sem]
      refine xappend (t := 45) (e := 56) (sz := 8) (bytes := 64) (by kernel_rfl) tI_56 rfl rfl rfl rfl (by decide) [_, _, _] _ o (cP s.members k).length (ouA s k) i2 (ouA_len _ _) (Src.own List.mem_cons_self) (m := 1) (news := [.int .i64 k, .bool false, .int .u64 0, .int .u64 0, .int .u64 (fineS s k), .int .u64 (burnP s.par (fineS s k)), .int .i64 0, .int .u64 ((nowM s k).bal - fineS s k)]) rfl (by intro u hu; simp only [List.mem_cons, List.not_mem_nil, or_false] at hu; rcases hu with rfl | rfl | rfl | rfl | rfl | rfl | rfl | rfl <;> rfl) (by simp [maxLen]; omega) (by omega) ?_
      intro o' j1 j2 j3
      rw [e3] at j1
      rw [← hV, e1, e3]
      simp -dsimp -implicitDefEqProofs (disch := first|with_reducible assumption|omega) [go_sem]
      exact ⟨k + 1, o', ea, ec, h8, ⟨by omega, j1, by rw [hex]; exact i3.up (le7.trans le8), i4.trans ((le7.trans le8)), hb1c, (apO_tail (apO_tail (apO_tail j2))).head⟩, by omega, by simp [Ent, List.lookup, hts, hex], (Drop.tail _ _ _).trans ((Drop.tail _ _ _).trans (Drop.tail _ _ _))⟩
    ·simp -dsimp -implicitDefEqProofs (disch := first|with_reducible assumption|omega) [go_sem]
     refine xnew fun b20 n_b20 h_b20 => ?_
     try simp only [Apart] at n_b20
     have nb20 : b19 ≠ b20 ∧ b1 ≠ b20 := ⟨n_b20.1, (apart_oent n_b20.2).1⟩
     clear n_b20
     refine xkp ((Drop.tail _ _ _).trans dropB) ?_
     simp -dsimp -implicitDefEqProofs (disch := first|with_reducible assumption|omega) [go_sem]
     refine after11_any s.par H.ok H.r (gr zeroM s.members k) hmo false (modeS s) ?_
     rw [en]
     refine xkp ((Drop.tail _ _ _).trans dropB) ?_
     simp -dsimp -implicitDefEqProofs (disch := first|with_reducible assumption|omega) [go_sem]
     simp -dsimp -implicitDefEqProofs (disch := first|with_reducible assumption|omega) [go_sem, xFind_oent mo1]
     refine Spec.ap (fine15_any s.par H.ok H.r (nowM s k) hno (modeS s) fun h7 le7 ap => ?_)
     rw [show fineP s.par (nowM s k) (modeS s) = fineS s k from rfl]
     have hb20a : h7 b20 = noC := ap.1
     have hb19a : h7 b19 = noC := ap.2.1
     have hb1a : h7 b1 = noC := (Ap.oent ap.2.2).1
     clear ap
     simp -dsimp -implicitDefEqProofs (disch := first|with_reducible assumption|omega) [go_sem, xFind_oent mo1]
     refine Spec.ap (burn15_any s.par H.ok H.r (fineS s k) (by omega) fun h8 le8 ap => ?_)
     have hb20c : h8 b20 = noC := ap.1
     have hb19c : h8 b19 = noC := ap.2.1
     have hb1c : h8 b1 = noC := (Ap.oent ap.2.2).1
     clear ap
     simp -dsimp -implicitDefEqProofs (disch := first|with_reducible assumption|omega) [go_sem, xFind_oent mo1]
     have q1 : slip1 s k = ⟨k, false, 0, 0, fineS s k, burnP s.par (fineS s k), 0, 0⟩ := by rw [slip1, if_neg (by show ¬ getB s.marks k = true; rw [c4]; decide)]
     have q2 : endM' s k = { nowM s k with bal := (nowM s k).bal - fineS s k } := by rw [endM', if_neg (by show ¬ getB s.marks k = true; rw [c4]; decide)]
     by_cases c5 : ((nowM s k).bal - fineS s k) ≤ s.par.floor
     ·have co : outB s k = true := decide_eq_true (by rw [q2]; exact c5)
      rw [if_pos co] at hex
      have hV : slC (slipR s k) = [.int .i64 k, .bool false, .int .u64 0, .int .u64 0, .int .u64 (fineS s k), .int .u64 (burnP s.par (fineS s k)), .int .i64 4, .int .u64 ((nowM s k).bal - fineS s k)] := by rw [slipR, q1, q2, co]; rfl
      simp -dsimp -implicitDefEqProofs (disch := first|with_reducible assumption|omega) [go_sem, xFind_oent mo1]
      refine Spec.ap (drop16v_any _ (i3.up (le7.trans le8)) k (by omega) fun h9 r9 le9 i9 ap => ?_)
      have hb19b : h9 b19 = noC := ap.2.1
      have hb20b : h9 b20 = noC := ap.1
      have hb1b : h9 b1 = noC := (Ap.oent ap.2.2).1
      clear ap
      obtain ⟨ra, rc, rfl, _⟩ := i9.open
      simp -dsimp -implicitDefEqProofs (disch := first|with_reducible assumption|omega) [go_sem, xFind_oent mo1]
      refine xnew fun b21 n_b21 h_b21 => ?_
      try simp only [Apart] at n_b21
      simp -dsimp -implicitDefEqProofs (disch := first|with_reducible assumption|omega) [go_sem]
      refine xappend (t := 45) (e := 56) (sz := 8) (bytes := 64) (by kernel_rfl) tI_56 rfl rfl rfl rfl (by decide) [_, _, _] _ o (cP s.members k).length (ouA s k) i2 (ouA_len _ _) (Src.own List.mem_cons_self) (m := 1) (news := [.int .i64 k, .bool false, .int .u64 0, .int .u64 0, .int .u64 (fineS s k), .int .u64 (burnP s.par (fineS s k)), .int .i64 4, .int .u64 ((nowM s k).bal - fineS s k)]) rfl (by intro u hu; simp only [List.mem_cons, List.not_mem_nil, or_false] at hu; rcases hu with rfl | rfl | rfl | rfl | rfl | rfl | rfl | rfl <;> rfl) (by simp [maxLen]; omega) (by omega) ?_
      intro o' j1 j2 j3
      rw [e3] at j1
      rw [← hV, e1, e3]
      simp -dsimp -implicitDefEqProofs (disch := first|with_reducible assumption|omega) [go_sem]
      exact ⟨k + 1, o', ra, rc, h9, ⟨by omega, j1, by rw [hex]; exact i9, i4.trans (((le7.trans le8)).trans le9), hb1b, (apO_tail (apO_tail (apO_tail j2))).head⟩, by omega, by simp [Ent, List.lookup, hts, hex], (Drop.tail _ _ _).trans ((Drop.tail _ _ _).trans (Drop.tail _ _ _))⟩
     ·have co : outB s k = false := decide_eq_false (by rw [q2]; exact c5)
      rw [co, if_neg (by decide)] at hex
      have hV : slC (slipR s k) = [.int .i64 k, .bool false, .int .u64 0, .int .u64 0, .int .u64 (fineS s k), .int .u64 (burnP s.par (fineS s k)), .int .i64 0, .int .u64 ((nowM s k).bal - fineS s k)] := by rw [slipR, q1, q2, co]; rfl
      simp -dsimp -implicitDefEqProofs (disch := first|with_reducible assumption|omega) [go_sem, xFind_oent mo1]
      refine xnew fun b21 n_b21 h_b21 => ?_
      try simp only [Apart] at n_b21
      simp -dsimp -implicitDefEqProofs (disch := first|with_reducible assumption|omega) [go_sem]
      refine xappend (t := 45) (e := 56) (sz := 8) (bytes := 64) (by kernel_rfl) tI_56 rfl rfl rfl rfl (by decide) [_, _, _] _ o (cP s.members k).length (ouA s k) i2 (ouA_len _ _) (Src.own List.mem_cons_self) (m := 1) (news := [.int .i64 k, .bool false, .int .u64 0, .int .u64 0, .int .u64 (fineS s k), .int .u64 (burnP s.par (fineS s k)), .int .i64 0, .int .u64 ((nowM s k).bal - fineS s k)]) rfl (by intro u hu; simp only [List.mem_cons, List.not_mem_nil, or_false] at hu; rcases hu with rfl | rfl | rfl | rfl | rfl | rfl | rfl | rfl <;> rfl) (by simp [maxLen]; omega) (by omega) ?_
      intro o' j1 j2 j3
      rw [e3] at j1
      rw [← hV, e1, e3]
      simp -dsimp -implicitDefEqProofs (disch := first|with_reducible assumption|omega) [go_sem]
      exact ⟨k + 1, o', ea, ec, h8, ⟨by omega, j1, by rw [hex]; exact i3.up (le7.trans le8), i4.trans ((le7.trans le8)), hb1c, (apO_tail (apO_tail (apO_tail j2))).head⟩, by omega, by simp [Ent, List.lookup, hts, hex], (Drop.tail _ _ _).trans ((Drop.tail _ _ _).trans (Drop.tail _ _ _))⟩
  ·have c3' : ¬ ((gr zeroM s.members k).status = 2 ∨ (gr zeroM s.members k).status = 3) := by simpa [cntB] using c3
   rw [decide_eq_false c3']
   rw [if_neg c3] at hcs hex
   rw [show cntB (gr zeroM s.members k) = false by simpa using c3, Bool.false_and] at hts
   simp only [Bool.false_eq_true, if_false] at hts
   simp -dsimp -implicitDefEqProofs (disch := first|with_reducible assumption|omega) [go_sem]
   refine ⟨k + 1, o, ea, ec, hh, ⟨by omega, by rw [hcs]; exact i2, by rw [hex]; exact i3, i4, i5, mo1⟩, by omega, by simp [Ent, List.lookup, hts, hcs, hex], ?_⟩
   unfold ouA
   rw [hcs]
   exact Drop.refl _ _
 obtain rfl : s.members.length = k := by omega
 clear c2 i1
 have hxl := (exA_sub s s.members.length).length_le
 have hxl2 := H.xl
 simp -dsimp -implicitDefEqProofs (disch := first|with_reducible assumption|omega) [go_sem, xFind_oent mo1]
 refine Spec.ap (pop16_any _ i3 (by omega) s.par.churn (by omega) fun h7 r1 r2 le7 il ir ap => ?_)
 have hbo : ∀ b c, o = some (b, c) → h7 b = noC := fun b c e => by subst e; exact ap.1
 clear ap
 rw [show (exA s s.members.length).take s.par.churn.toNat = leftS s from rfl] at il
 obtain ⟨la, lc, rfl, _⟩ := il.open
 obtain ⟨ra, rc, rfl, _⟩ := ir.open
 obtain ⟨n, hn⟩ : ∃ n, n = (cI s).length := ⟨_, rfl⟩
 have hcl : (cI s).length ≤ s.members.length := cP_len _ _
 rw [show (cP s.members s.members.length).length = n from hn.symm] at i2 ⊢
 simp -dsimp -implicitDefEqProofs (disch := first|with_reducible assumption|omega) [go_sem]
 refine xloop (γ := Nat) 0 (fun j => j ≤ n) (fun j => [(23, .int .i64 j), (21, .slice la (leftS s).length lc), (15, ovs o n)])
  (fun j => oent 56 8 o ((mixL (slip2 s) (slipR s) (cI s) j).flatMap slC) L) (fun _ => h7) (fun j => n - j) ?_ ?_ ?_ ?_
 ·exact Nat.zero_le _
 ·simp [Ent, List.lookup]
 ·rw [mixL_0]
  exact (Drop.perm h7 oent_perm.symm).trans (Drop.tail _ _ _)
 intro k i1
 by_cases c1 : k < n
 ·have c1' : k < (cI s).length := by omega
  obtain ⟨bs, cs, rfl⟩ : ∃ bs cs, o = some (bs, cs) := by
   cases o with
   | none => have : n = 0 := i2; omega
   | some p => exact ⟨p.1, p.2, rfl⟩
  have hbs : h7 bs = noC := hbo bs cs rfl
  have hcs : n ≤ cs := i2.1
  obtain ⟨i, hi⟩ : ∃ i, i = (cI s)[k] := ⟨_, rfl⟩
  have hil : i < s.members.length := by rw [hi]; exact cI_lt c1'
  have gs : gr zeroSl (mixL (slip2 s) (slipR s) (cI s) k) k = slipR s i := by rw [mixL_at zeroSl c1', hi]
  have kl1 : k < (mixL (slip2 s) (slipR s) (cI s) k).length := by rw [mixL_len]; exact c1'
  have hst1 := mixL_set (f := slip2 s) (g := slipR s) c1'
  have ml1 : (mixL (slip2 s) (slipR s) (cI s) k).length = n := by rw [mixL_len, hn]
  rw [← hi] at hst1
  have hf := slip1_f s i
  generalize mixL (slip2 s) (slipR s) (cI s) k = M1 at *
  have g0 : ∀ (K : Value → Prop) (t : Tok K), xNth (M1.flatMap slC) (k * 8) K t = K (.int .i64 i) := fun K t => xNth_rec slC_len zeroSl _ (m := 0) kl1 (by decide) (by rw [gs, ← hf.1]; rfl) K t
  have g1 : ∀ (K : Value → Prop) (t : Tok K), xNth (M1.flatMap slC) (k * 8 + 1) K t = K (.bool (slip1 s i).there) := fun K t => xNth_rec slC_len zeroSl _ (m := 1) kl1 (by decide) (by rw [gs]; rfl) K t
  have g2 : ∀ (K : Value → Prop) (t : Tok K), xNth (M1.flatMap slC) (k * 8 + 2) K t = K (.int .u64 (slip1 s i).prize) := fun K t => xNth_rec slC_len zeroSl _ (m := 2) kl1 (by decide) (by rw [gs]; rfl) K t
  have g3 : ∀ (K : Value → Prop) (t : Tok K), xNth (M1.flatMap slC) (k * 8 + 3) K t = K (.int .u64 (slip1 s i).over) := fun K t => xNth_rec slC_len zeroSl _ (m := 3) kl1 (by decide) (by rw [gs]; rfl) K t
  have g4 : ∀ (K : Value → Prop) (t : Tok K), xNth (M1.flatMap slC) (k * 8 + 4) K t = K (.int .u64 (slip1 s i).fine) := fun K t => xNth_rec slC_len zeroSl _ (m := 4) kl1 (by decide) (by rw [gs]; rfl) K t
  have g5 : ∀ (K : Value → Prop) (t : Tok K), xNth (M1.flatMap slC) (k * 8 + 5) K t = K (.int .u64 (slip1 s i).burned) := fun K t => xNth_rec slC_len zeroSl _ (m := 5) kl1 (by decide) (by rw [gs]; rfl) K t
  have g6 : ∀ (K : Value → Prop) (t : Tok K), xNth (M1.flatMap slC) (k * 8 + 6) K t = K (.int .i64 (if outB s i then 4 else 0)) := fun K t => xNth_rec slC_len zeroSl _ (m := 6) kl1 (by decide) (by rw [gs]; rfl) K t
  have g7 : ∀ (K : Value → Prop) (t : Tok K), xNth (M1.flatMap slC) (k * 8 + 7) K t = K (.int .u64 (endM' s i).bal) := fun K t => xNth_rec slC_len zeroSl _ (m := 7) kl1 (by decide) (by rw [gs]; rfl) K t
  have hsum1 : (M1.map fun a => (slC a).length).sum = n * 8 := by rw [← List.length_flatMap, flatG_len slC_len, ml1]
  have hk8 := flat_lt (w := 8) c1 (show 7 < 8 by decide)
  simp only [ovs_some, oent_some]
  simp -dsimp -implicitDefEqProofs (disch := first|with_reducible assumption|omega) [go_sem, g0, g1, g2, g3, g4, g5, g6, g7]
  refine xnew fun b24 n_b24 h_b24 => ?_
  try simp only [Apart] at n_b24
  have nb24 := n_b24.1
  clear n_b24
  simp -dsimp -implicitDefEqProofs (disch := first|with_reducible assumption|omega) [go_sem]
  refine find16_any _ i il ?_
  by_cases c2 : (i : Int) ∈ leftS s
  ·have c3 := (fI_iff (leftS s) i).2 c2
   have ee : endsS s i = 5 := by rw [endsS, if_pos c2]
   have ha2 : slip2 s i = ⟨i, (slip1 s i).there, (slip1 s i).prize, (slip1 s i).over, (slip1 s i).fine, (slip1 s i).burned, 5, (endM' s i).bal⟩ := by rw [slip2, ee, if_pos (by decide), hf.1]
   simp -dsimp -implicitDefEqProofs (disch := first|with_reducible assumption|omega) [go_sem]
   refine ⟨by omega, k + 1, by omega, by omega, by simp [Ent, List.lookup], ?_⟩
   have := slset8 kl1 (slip2 s i)
   rw [hst1, ha2] at this
   simp only at this
   rw [this]
   exact Drop.tail _ _ _
  ·have c3 : ¬ 0 ≤ fI (leftS s) i := fun x => c2 ((fI_iff _ _).1 x)
   by_cases c4 : outB s i = true
   ·rw [if_pos c4] at g6
    have ee : endsS s i = 4 := by rw [endsS, if_neg c2, if_pos c4]
    have ha2 : slip2 s i = ⟨i, (slip1 s i).there, (slip1 s i).prize, (slip1 s i).over, (slip1 s i).fine, (slip1 s i).burned, 4, (endM' s i).bal⟩ := by rw [slip2, ee, if_pos (by decide), hf.1]
    rw [if_pos c4]
    simp -dsimp -implicitDefEqProofs (disch := first|with_reducible assumption|omega) [go_sem]
    refine ⟨by omega, k + 1, by omega, by omega, by simp [Ent, List.lookup], ?_⟩
    have := slset8 kl1 (slip2 s i)
    rw [hst1, ha2] at this
    simp only at this
    rw [this]
    exact Drop.tail _ _ _
   ·have ee : endsS s i = 0 := by rw [endsS, if_neg c2, if_neg c4]
    have ha2 : slip2 s i = ⟨i, (slip1 s i).there, (slip1 s i).prize, (slip1 s i).over, (slip1 s i).fine, (slip1 s i).burned, 0, 0⟩ := by rw [slip2, ee, if_neg (by decide), hf.1]
    rw [if_neg c4]
    simp -dsimp -implicitDefEqProofs (disch := first|with_reducible assumption|omega) [go_sem]
    refine ⟨by omega, k + 1, by omega, by omega, by simp [Ent, List.lookup], ?_⟩
    have := slset8 kl1 (slip2 s i)
    rw [hst1, ha2] at this
    simp only at this
    rw [this]
    exact Drop.tail _ _ _
 ·obtain rfl : n = k := by omega
  rw [show mixL (slip2 s) (slipR s) (cI s) n = (cI s).map (slip2 s) by rw [hn, mixL_all]]
  obtain ⟨x1, y1, e1, _⟩ := ovs_open i2
  rw [e1]
  simp -dsimp -implicitDefEqProofs (disch := first|with_reducible assumption|omega) [go_sem]
  have hml : ((cI s).map (slip2 s)).length = n := by rw [List.length_map, hn]
  have a0 : apO o [] h7 := by
   cases o with
   | none => trivial
   | some p => exact ⟨trivial, hbo p.1 p.2 rfl⟩
  refine fin_pub (n := n) i2 (by rw [flatG_len slC_len, hml]) (by omega) a0 fun h8 le8 sl => fin_here ?_
  rw [e1] at sl
  exact hk h8 _ (le06.trans (i4.trans (le7.trans le8))) ⟨slC_len, by rw [hml]; exact sl⟩
end Go.X

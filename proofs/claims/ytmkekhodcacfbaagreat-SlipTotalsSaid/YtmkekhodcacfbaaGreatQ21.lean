/- Lemmas and contracts for a statement about the given program. Conditions: as each says. -/
import Derived.Test.YtmkekhodcacfbaaGreatQ16
import Derived.Test.YtmkekhodcacfbaaGreatQ17
set_option linter.unusedVariables false
set_option linter.unusedSimpArgs false
set_option maxHeartbeats 12800000
set_option maxRecDepth 20000
namespace Go.X
open Go.RowKit Go.Proofs Go.Bl
variable {L : Own} {h : PH} {K : PK}
theorem radd_any {n m : Int} {k l : Nat} (v u : Value) (ha : Nt h v n k) (hb : Nt h u m l) (hkl : k ≤ 200000 ∧ l ≤ 200000) (hk : ∀ h' r, PH.le h h' → Nt h' r (n + m) (max k l + 1) → K r L h') : Spec Tryz.prog 62 [v, u] L h K := by
 obtain ⟨s, ds, rfl, hs, hd, rfl, hdl⟩ := ha
 obtain ⟨r, es, rfl, hr, he, rfl, hel⟩ := hb
 have hs0 := hs
 have hr0 := hr
 obtain ⟨a, ca, rfl, hna, hca, _, hcx⟩ := hs.open
 obtain ⟨b, cb, rfl, hnb, hcb, _, hcy⟩ := hr.open
 obtain ⟨N, hN⟩ : ∃ N, N = max ds.length es.length := ⟨_, rfl⟩
 have eN : max (ds.length : Int) (es.length : Int) = (N : Int) := by omega
 refine x_enter Tryz.func62 rfl (rs := [_]) rfl rfl mixed (by kernel_rfl) rfl rfl ?_
 simp -dsimp -implicitDefEqProofs (disch := first|with_reducible assumption|omega) [go_sem]
 refine xnew fun b1 n_b1 h_b1 => ?_
 try simp only [Apart] at n_b1
 simp -dsimp -implicitDefEqProofs (disch := first|with_reducible assumption|omega) [go_sem]
 refine xnew fun b2 n_b2 h_b2 => ?_
 try simp only [Apart] at n_b2
 simp -dsimp -implicitDefEqProofs (disch := first|with_reducible assumption|omega) [go_sem]
 refine xnew fun b3 n_b3 h_b3 => ?_
 try simp only [Apart] at n_b3
 simp -dsimp -implicitDefEqProofs (disch := first|with_reducible assumption|omega) [go_sem]
 refine xloop (γ := Nat × Int × Option (Nat × Nat) × List Int) (0, 0, none, [])
  (fun s => s.1 ≤ N + 1 ∧ (s.1 = N + 1 → s.2.1 = 0) ∧ 0 ≤ s.2.1 ∧ s.2.1 ≤ 1 ∧ s.2.2.2.length = s.1 ∧ okO s.2.2.1 s.2.2.2.length ∧ apO s.2.2.1 (⟨b3, 136, [.slice none 0 0], 1⟩ :: ⟨b2, 136, [.slice b es.length cb], 1⟩ :: ⟨b1, 136, [.slice a ds.length ca], 1⟩ :: L) h ∧ Dg s.2.2.2 ∧ vl s.2.2.2 + s.2.1 * 10 ^ s.1 = pv ds s.1 + pv es s.1)
  (fun s => [(7, .int .i64 s.1), (6, .int .i64 s.2.1), (5, ovs s.2.2.1 s.2.2.2.length), (4, .pointer (some ⟨b3, 0, none⟩)), (3, .pointer (some ⟨b2, 0, none⟩)), (2, .pointer (some ⟨b1, 0, none⟩))])
  (fun s => oent 3 1 s.2.2.1 (s.2.2.2.map (Value.int .i64)) (⟨b3, 136, [.slice none 0 0], 1⟩ :: ⟨b2, 136, [.slice b es.length cb], 1⟩ :: ⟨b1, 136, [.slice a ds.length ca], 1⟩ :: L))
  (fun _ => h) (fun s => N + 1 - s.1) ?_ ?_ ?_ ?_
 ·exact ⟨Nat.zero_le _, fun _ => rfl, Int.le_refl _, by simp, rfl, rfl, trivial, fun j => by simp [at0], by simp [vl, pv]⟩
 ·simp [Ent, List.lookup, ovs]
 ·exact Drop.refl _ _
 rintro ⟨i, c, o, fs⟩ ⟨i1, i2, i3, i4, i5, i6, i7, i8, i9⟩
 simp only at i1 i2 i3 i4 i5 i6 i7 i8 i9 ⊢
 have m3 : apB o b3 := i7.head
 have m2 : apB o b2 := (apO_tail i7).head
 have m1 : apB o b1 := (apO_tail (apO_tail i7)).head
 have q1 := hd i
 have q2 := he i
 have hpd : pv ds (i + 1) = pv ds i + at0 ds i * 10 ^ i := rfl
 have hpe : pv es (i + 1) = pv es i + at0 es i * 10 ^ i := rfl
 by_cases c1 : (i : Int) < (N : Int) ∨ 0 < c
 ·have hi : i < N + 1 := by
   by_cases e : i = N + 1
   ·have := i2 e; omega
   ·omega
  obtain ⟨t, ht⟩ : ∃ t, t = at0 ds i + at0 es i + c := ⟨_, rfl⟩
  have hz : i = N → at0 ds i = 0 ∧ at0 es i = 0 := fun e => ⟨at0_ge (by omega), at0_ge (by omega)⟩
  have f1 : vl (fs ++ [t % 10]) + t / 10 * 10 ^ (i + 1) = pv ds (i + 1) + pv es (i + 1) := by
   rw [vl_append, i5, hpd, hpe, Int.pow_succ]
   have e : t = t / 10 * 10 + t % 10 := by omega
   have e2 : t * 10 ^ i = t / 10 * (10 ^ i * 10) + t % 10 * 10 ^ i := by
    conv => lhs; rw [e]
    rw [Int.add_mul, Int.mul_assoc, Int.mul_comm 10]
   have e3 : t * 10 ^ i = at0 ds i * 10 ^ i + at0 es i * 10 ^ i + c * 10 ^ i := by rw [ht, Int.add_mul, Int.add_mul]
   omega
  by_cases c2 : (i : Int) < (N : Int)
  all_goals
   simp -dsimp -implicitDefEqProofs (disch := first|with_reducible assumption|omega) [go_sem, xFind_oent m2, xFind_oent m1, xBuiltin_max, eN]
   refine xdraw (by kernel_rfl) rfl ?_
   simp -dsimp -implicitDefEqProofs (disch := first|with_reducible assumption|omega) [go_sem, xFind_oent m2, xFind_oent m1]
   refine xdcall _ (at_any _ i hs0 (by omega) (by omega) ⟨rfl, rfl, rfl⟩) ?_
   simp only [Int.toNat_natCast]
   simp -dsimp -implicitDefEqProofs (disch := first|with_reducible assumption|omega) [go_sem, xFind_oent m2, xFind_oent m1]
   refine xdcall _ (at_any _ i hr0 (by omega) (by omega) ⟨rfl, rfl, rfl⟩) ?_
   simp only [Int.toNat_natCast]
   simp -dsimp -implicitDefEqProofs (disch := first|with_reducible assumption|omega) [go_sem, ← ht]
   refine xnew fun b4 n_b4 h_b4 => ?_
   try simp only [Apart] at n_b4
   simp -dsimp -implicitDefEqProofs (disch := first|with_reducible assumption|omega) [go_sem, ← ht]
   refine xappend (t := 27) (e := 3) (sz := 1) (bytes := 8) (z := [.int .i64 0]) (by kernel_rfl) tI_3 rfl rfl rfl rfl (by decide) [_] _ o fs.length (fs.map (Value.int .i64)) i6 (by simp) (Src.own List.mem_cons_self) (m := 1) (news := [.int .i64 (t % 10)]) rfl (fun u hu => by simp at hu; subst hu; rfl) (by simp [maxLen]; omega) (by omega) ?_
   intro o' j1 j2 j3
   simp -dsimp -implicitDefEqProofs (disch := first|with_reducible assumption|omega) [go_sem, ← ht]
   refine ⟨i + 1, t / 10, o', fs ++ [t % 10], ⟨by omega, fun e => ?_, by omega, by omega, by simp [i5], by simpa using j1, apO_tail j2, i8.append (by omega) (by omega), f1⟩, by omega, by simp [Ent, List.lookup], by simpa using Drop.tail _ _ _⟩
   have := hz (by omega)
   omega
 ·have hc0 : c = 0 := by omega
  subst hc0
  have hv : vl fs = vl ds + vl es := by
   rw [← pv_more ds i (by omega), ← pv_more es i (by omega)]
   omega
  simp -dsimp -implicitDefEqProofs (disch := first|with_reducible assumption|omega) [go_sem, xFind_oent m2, xFind_oent m1, xBuiltin_max, eN]
  refine call_pub (n := fs.length) i6 (by simp) (by omega) i7 fun h' le sl => ?_
  refine Spec.ap (trim_any (ds := fs) (m := max k l + 1) _ ⟨sl, digit_range i8⟩ i8 (by omega) fun r hr ap => ?_)
  simp only [Ap] at ap
  obtain ⟨a3, a2, a1, _⟩ := ap
  obtain ⟨s', fs', rfl, g1, g2, g3, g4⟩ := hr
  simp -dsimp -implicitDefEqProofs (disch := first|with_reducible assumption|omega) [go_sem]
  refine ⟨by obtain ⟨_, _, rfl, _⟩ := g1.open; rfl, fin_tail (fin_tail (fin_tail (fin_here (hk h' _ le ⟨s', fs', rfl, g1, g2, by rw [g3, hv], g4⟩))))⟩
theorem nt_zero (h : PH) (m : Nat) : Nt h (.agg #[.slice none 0 0]) 0 m := ⟨_, [], rfl, nil_ints h .i64, fun j => by simp [at0], rfl, Nat.zero_le _⟩
theorem Nt.sl {v : Value} {n : Int} {m : Nat} (hs : Nt h v n m) : ∃ a k c, v = .agg #[.slice a k c] := by
 obtain ⟨s, ds, rfl, b, _⟩ := hs
 obtain ⟨a, c, rfl, _⟩ := b.open
 exact ⟨a, _, c, rfl⟩
structure IsMon (h : PH) (s : StD) (r1 r2 r3 r4 : Value) : Prop where
 ok : StOk s
 a : Ints h .u64 r1 (s.members.map MemD.bal)
 b : Ints h .u64 r2 s.purses
 c : Ints h .u64 r3 (s.pool.map DepD.amt)
 d : Ints h .u64 r4 (s.dues.map DueD.amt)
structure FewT (s : StD) : Prop where
 p : s.purses.length ≤ 20000
 m : s.members.length ≤ 20000
 o : s.pool.length ≤ 20000
 d : s.dues.length ≤ 20000
theorem perm_of_sub : ∀ (A l : List Int), A.Nodup → (∀ x ∈ A, x ∈ l) → l.length = A.length → l.Perm A
 | [], l, _, _, hl => by
  have : l = [] := List.eq_nil_of_length_eq_zero (by simpa using hl)
  subst this
  exact List.Perm.refl _
 | a :: A, l, hn, hs, hl => by
  obtain ⟨l1, l2, rfl⟩ := List.append_of_mem (hs a (by simp))
  have hn' := List.nodup_cons.1 hn
  have ih := perm_of_sub A (l1 ++ l2) hn'.2 (fun x hx => by
   have := hs x (by simp [hx])
   rcases List.mem_append.1 this with h | h
   ·exact List.mem_append.2 (Or.inl h)
   ·rcases List.mem_cons.1 h with h | h
    ·subst h; exact absurd hx hn'.1
    ·exact List.mem_append.2 (Or.inr h)) (by simp at hl ⊢; omega)
  exact List.perm_middle.trans (ih.cons a)
def setS (s : StD) (st : Int) : Nat → List Int
 | 0 => []
 | k + 1 => setS s st k ++ if (gr zeroM s.members k).status = st then [(k : Int)] else []
theorem setS_len (s : StD) (st : Int) : ∀ k, (setS s st k).length = cntS s.members st k
 | 0 => rfl
 | k + 1 => by simp only [setS, cntS, List.length_append, setS_len s st k]; split <;> simp
theorem setS_mem (s : StD) (st : Int) : ∀ (k : Nat) (x : Int), x ∈ setS s st k ↔ ∃ j : Nat, j < k ∧ x = j ∧ (gr zeroM s.members j).status = st
 | 0, x => by simp [setS]
 | k + 1, x => by
  simp only [setS, List.mem_append, setS_mem s st k x]
  constructor
  ·rintro (⟨j, h1, h2, h3⟩ | h)
   ·exact ⟨j, by omega, h2, h3⟩
   ·split at h
    ·rename_i c
     exact ⟨k, by omega, by simpa using h, c⟩
    ·cases h
  ·rintro ⟨j, h1, h2, h3⟩
   by_cases e : j = k
   ·subst e; right; rw [if_pos h3]; simpa using h2
   ·exact .inl ⟨j, by omega, h2, h3⟩
theorem setS_nodup (s : StD) (st : Int) : ∀ k, (setS s st k).Nodup
 | 0 => List.nodup_nil
 | k + 1 => by
  simp only [setS]
  refine List.nodup_append.2 ⟨setS_nodup s st k, by split <;> simp, fun a ha b hb => ?_⟩
  obtain ⟨j, h1, h2, _⟩ := (setS_mem s st k a).1 ha
  split at hb
  ·have : b = (k : Int) := by simpa using hb
   omega
  ·cases hb
def rowR1 (s : StD) (l : List Int) (st : Int) (i : Nat) : Bool := wi (at0 l i) 0 ((s.members.length : Int) - 1) && decide ((gr zeroM s.members (at0 l i).toNat).status = st) && !decide (at0 l i ∈ l.take i)
theorem rowR_nodup {s : StD} {l : List Int} {st : Int} : ∀ (n : Nat), n ≤ l.length → (∀ i, i < n → rowR1 s l st i = true) → (l.take n).Nodup
 | 0, _, _ => by simp
 | n + 1, hn, hq => by
  rw [List.take_succ_eq_append_getElem (by omega)]
  refine List.nodup_append.2 ⟨rowR_nodup n (by omega) (fun i hi => hq i (by omega)), by simp, fun a ha b hb => ?_⟩
  have := hq n (by omega)
  simp only [rowR1, Bool.and_eq_true, Bool.not_eq_true', decide_eq_false_iff_not] at this
  have hb' : b = at0 l n := by rw [← at0_lt (by omega)]; simpa using hb
  intro e
  rw [hb'] at e
  exact this.2 (e ▸ ha)
theorem row_iff {s : StD} {l : List Int} {st : Int} : rowB s l st = true ↔ (∀ i, i < l.length → rowR1 s l st i = true) ∧ (∀ j, j < s.members.length → (gr zeroM s.members j).status = st → (j : Int) ∈ l) := by
 constructor
 ·intro h
  simp only [rowB, Bool.and_eq_true, decide_eq_true_eq] at h
  obtain ⟨h1, h2⟩ := h
  have hall : ∀ j, j < s.members.length → (gr zeroM s.members j).status = st → (j : Int) ∈ l := fun j hj hst => by
   rw [hasB, List.all_eq_true] at h1
   have := h1 j (List.mem_range.2 hj)
   simpa [hst] using this
  have hp : l.Perm (setS s st s.members.length) := perm_of_sub _ _ (setS_nodup s st _) (fun x hx => by
   obtain ⟨j, j1, rfl, j3⟩ := (setS_mem s st _ x).1 hx
   exact hall j j1 j3) (by rw [setS_len]; exact h2)
  refine ⟨fun i hi => ?_, hall⟩
  have hx : at0 l i ∈ l := by rw [← at0_lt hi]; exact List.getElem_mem hi
  obtain ⟨j, j1, j2, j3⟩ := (setS_mem s st _ _).1 (hp.mem_iff.1 hx)
  have hnd : l.Nodup := hp.nodup_iff.2 (setS_nodup s st _)
  simp only [rowR1, Bool.and_eq_true, wi_iff, decide_eq_true_eq, Bool.not_eq_true', decide_eq_false_iff_not]
  refine ⟨⟨by omega, by rw [j2]; simpa using j3⟩, fun hm => ?_⟩
  obtain ⟨m, hm1, hm2⟩ := List.mem_iff_getElem.1 hm
  simp only [List.length_take] at hm1
  rw [List.getElem_take] at hm2
  exact (List.pairwise_iff_getElem.1 hnd m i (by omega) hi (by omega)) (by rw [at0_lt (by omega), at0_lt hi]; rw [at0_lt (by omega)] at hm2; exact hm2)
 ·rintro ⟨h1, h2⟩
  have hnd := rowR_nodup l.length (Nat.le_refl _) h1
  rw [List.take_length] at hnd
  have hp : (setS s st s.members.length).Perm l := by
   have hsub : ∀ x ∈ l, x ∈ setS s st s.members.length := fun x hx => by
    obtain ⟨i, hi, rfl⟩ := List.mem_iff_getElem.1 hx
    have := h1 i hi
    simp only [rowR1, Bool.and_eq_true, wi_iff, decide_eq_true_eq] at this
    obtain ⟨⟨⟨a, b⟩, c⟩, _⟩ := this
    rw [at0_lt hi]
    exact (setS_mem s st _ _).2 ⟨(at0 l i).toNat, by omega, by omega, c⟩
   have hsub2 : ∀ x ∈ setS s st s.members.length, x ∈ l := fun x hx => by
    obtain ⟨j, j1, rfl, j3⟩ := (setS_mem s st _ x).1 hx
    exact h2 j j1 j3
   exact (List.perm_ext_iff_of_nodup (setS_nodup s st _) hnd).2 fun x => ⟨hsub2 x, hsub x⟩
  simp only [rowB, Bool.and_eq_true, decide_eq_true_eq]
  exact ⟨hasB_true h2, by rw [← hp.length_eq, setS_len]⟩
end Go.X

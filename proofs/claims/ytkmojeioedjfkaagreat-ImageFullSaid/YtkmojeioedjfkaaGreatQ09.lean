/- Lemmas and contracts for a statement about the given program. Conditions: as each says. -/
import Derived.Test.YtkmojeioedjfkaaGreatQ03
import Derived.Test.YtkmojeioedjfkaaGreatQ04
import Derived.Test.YtkmojeioedjfkaaGreatQ06
set_option linter.unusedVariables false
set_option linter.unusedSimpArgs false
set_option maxHeartbeats 12800000
set_option maxRecDepth 20000
namespace Go.X
open Go.RowKit Go.Proofs Go.Bl
variable {L : Own} {h : PH} {K : PK}
theorem good_any {T cap b : Nat} {v : Value} {e : Int} {cs : List Value} (hk : K (.bool (decide (e = 0))) (⟨b, T, v :: .int .i64 e :: cs, cap⟩ :: L) h) (hT : T ≠ 4294967295 := by first | decide | omega) :
  Spec Tryz.prog 108 [.pointer (some ⟨b, 0, none⟩)] (⟨b, T, v :: .int .i64 e :: cs, cap⟩ :: L) h K := by
 refine x_enterA Tryz.func108 rfl (rs := [_]) rfl rfl mixed (by kernel_rfl) rfl rfl fun ap nd => ?_
 obtain ⟨hb, _⟩ := ap
 simp -dsimp -implicitDefEqProofs (disch := first|with_reducible assumption|omega) [go_sem]
 exact fin_here hk
theorem fail_any {T cap b : Nat} {v : Value} {e n : Int} {cs : List Value} (hk : K (.tuple #[]) (⟨b, T, v :: .int .i64 (if e = 0 then n else e) :: cs, cap⟩ :: L) h) (hT : T ≠ 4294967295 := by first | decide | omega) :
  Spec Tryz.prog 197 [.pointer (some ⟨b, 0, none⟩), .int .i64 n] (⟨b, T, v :: .int .i64 e :: cs, cap⟩ :: L) h K := by
 refine x_enterA Tryz.func197 rfl (rs := []) rfl rfl mixed (by kernel_rfl) rfl rfl fun ap nd => ?_
 obtain ⟨hb, _⟩ := ap
 simp -dsimp -implicitDefEqProofs (disch := first|with_reducible assumption|omega) [go_sem]
 by_cases c : e = 0
 ·simp -dsimp -implicitDefEqProofs (disch := first|with_reducible assumption|omega) [go_sem]
  exact fin_here (by simpa [c] using hk)
 ·simp -dsimp -implicitDefEqProofs (disch := first|with_reducible assumption|omega) [go_sem]
  rw [if_neg c] at hk
  exact fin_here hk
def wPut (s : List Int × Int) (b : List Int) : List Int × Int := if s.2 ≠ 0 then s else if s.1.length + b.length > 131072 then (s.1, 3) else (s.1 ++ b, 0)
def wInt (s : List Int × Int) (n : Int) : List Int × Int := if n < 0 then (s.1, if s.2 = 0 then 2 else s.2) else wPut s (formN n.toNat)
theorem and127 (m : Nat) (hm : m < 18446744073709551616) : bits .or .u8 (IntKind.u8.wrap (bits .and .u64 (m : Int) 127)) 128 = ((m % 128 + 128 : Nat) : Int) := by
 have h1 : bits .and .u64 (m : Int) ((127 : Nat) : Int) = ((m &&& 127 : Nat) : Int) := u64_and_nat m 127 hm (by decide)
 have h2 : m &&& 127 = m % 128 := Nat.and_two_pow_sub_one_eq_mod m 7
 have h3 : bits .and .u64 (m : Int) 127 = ((m % 128 : Nat) : Int) := by rw [← h2]; exact h1
 rw [h3, wrap_u8 _ (by omega) (by omega)]
 have h4 : bits .or .u8 ((m % 128 : Nat) : Int) ((128 : Nat) : Int) = ((m % 128 ||| 128 : Nat) : Int) := u8_or_nat (m % 128) 128 (by omega) (by decide)
 have h5 : ∀ k, k < 128 → k ||| 128 = k + 128 := by decide
 rw [h5 _ (by omega)] at h4
 exact h4
theorem form_any (n : Nat) (hn : n < 18446744073709551616) (hk : ∀ o, okO o (formN n).length → apO o L h → K (ovs o (formN n).length) (oent 5 1 o ((formN n).map (.int .u8)) L) h) : Spec Tryz.prog 267 [.int .u64 n] L h K := by
 have h10 := formN_len 10 n (Nat.lt_of_lt_of_le hn (by decide)) (by decide)
 refine x_enter Tryz.func267 rfl (rs := [_]) rfl rfl mixed (by kernel_rfl) rfl rfl ?_
 simp -dsimp -implicitDefEqProofs (disch := first|with_reducible assumption|omega) [go_sem]
 refine xloop (γ := Nat × Option (Nat × Nat) × List Int) (n, none, [])
  (fun s => s.1 < 18446744073709551616 ∧ s.2.2 ++ formN s.1 = formN n ∧ okO s.2.1 s.2.2.length ∧ apO s.2.1 L h)
  (fun s => [(0, .int .u64 s.1), (3, ovs s.2.1 s.2.2.length)]) (fun s => oent 5 1 s.2.1 (s.2.2.map (.int .u8)) L) (fun _ => h) (fun s => s.1) ?_ ?_ ?_ ?_
 ·exact ⟨hn, rfl, rfl, trivial⟩
 ·simp [Ent, List.lookup, xEnv, ovs]
 ·exact Drop.refl _ _
 rintro ⟨m, o, bs⟩ ⟨i1, i2, i4, i5⟩
 simp only at i1 i2 i4 i5 ⊢
 have hlen : bs.length + (formN m).length = (formN n).length := by rw [← i2, List.length_append]
 have hpos := formN_pos m
 by_cases c : m < 128
 ·simp -dsimp -implicitDefEqProofs (disch := first|with_reducible assumption|omega) [go_sem]
  refine xnew fun b1 n_b1 h_b1 => ?_
  try simp only [Apart] at n_b1
  simp -dsimp -implicitDefEqProofs (disch := first|with_reducible assumption|omega) [go_sem]
  refine xappend (t := 38) (e := 5) (sz := 1) (bytes := 1) (z := [.int .u8 0]) (by kernel_rfl) tI_5 rfl rfl rfl rfl (by decide) [⟨b1, 5, [.int .u8 m], 1⟩] L o bs.length (bs.map (.int .u8)) i4 (by simp) (m := 1) (news := [.int .u8 m]) (Src.own (b := b1) (t := 5) (cap := 1) (by simp)) (by simp) (by simp [Value.oneCell']) (by simp only [maxLen]; omega) (by omega) ?_
  intro o' j1 j2 j3
  simp -dsimp -implicitDefEqProofs (disch := first|with_reducible assumption|omega) [go_sem]
  have e : formN n = bs ++ [(m : Int)] := by rw [← i2, formN_lt c]
  have := hk o' (by rw [e]; simpa using j1) (apO_tail j2)
  rw [e] at this
  simp only [List.length_append, List.length_singleton, List.map_append, List.map_cons, List.map_nil] at this
  exact fin_tail (fin_here this)
 ·simp -dsimp -implicitDefEqProofs (disch := first|with_reducible assumption|omega) [go_sem]
  rw [and127 m i1]
  refine xnew fun b1 n_b1 h_b1 => ?_
  try simp only [Apart] at n_b1
  simp -dsimp -implicitDefEqProofs (disch := first|with_reducible assumption|omega) [go_sem]
  refine xappend (t := 38) (e := 5) (sz := 1) (bytes := 1) (z := [.int .u8 0]) (by kernel_rfl) tI_5 rfl rfl rfl rfl (by decide) [⟨b1, 5, [.int .u8 ((m % 128 + 128 : Nat) : Int)], 1⟩] L o bs.length (bs.map (.int .u8)) i4 (by simp) (m := 1) (news := [.int .u8 ((m % 128 + 128 : Nat) : Int)]) (Src.own (b := b1) (t := 5) (cap := 1) (by simp)) (by simp) (by simp [Value.oneCell']) (by simp only [maxLen]; omega) (by omega) ?_
  intro o' j1 j2 j3
  simp -dsimp -implicitDefEqProofs (disch := first|with_reducible assumption|omega) [go_sem]
  have hl2 : (formN m).length = (formN (m / 128)).length + 1 := by rw [formN_ge c]; rfl
  refine ⟨m / 128, o', bs ++ [((m % 128 + 128 : Nat) : Int)], ⟨by omega, by rw [← i2, formN_ge c]; simp, by simpa using j1, apO_tail j2⟩, by omega, by simp [Ent, List.lookup], ?_⟩
  push_cast
  simp only [List.map_append, List.map_cons, List.map_nil]
  exact Drop.tail _ _ _
theorem form_ints {h : PH} {o : Option (Nat × Nat)} {b : List Int} (hb : ∀ z ∈ b, 0 ≤ z ∧ z ≤ 255) (sl : Sl h (ovs o b.length) b.length 1 (b.map (.int .u8))) : Ints h .u8 (ovs o b.length) b :=
 ⟨sl, fun z hz => by rw [show IntKind.u8.min = 0 by decide, show IntKind.u8.max = 255 by decide]; exact hb z hz⟩
abbrev wO (bw : Nat) (o : Option (Nat × Nat)) (s : List Int × Int) (A L : Own) : Own := ⟨bw, 98, [ovs o s.1.length, .int .i64 s.2], 2⟩ :: (A ++ oent 5 1 o (s.1.map (.int .u8)) L)
theorem wPut_ok {bs b : List Int} (h : bs.length + b.length ≤ 131072) : wPut (bs, 0) b = (bs ++ b, 0) := by
 simp only [wPut, ne_eq, not_true_eq_false, if_false]
 rw [if_neg (by omega)]
theorem wInt_ok {bs : List Int} {n : Int} (h0 : 0 ≤ n) (h : bs.length + (formN n.toNat).length ≤ 131072) : wInt (bs, 0) n = (bs ++ formN n.toNat, 0) := by
 rw [wInt, if_neg (by omega), wPut_ok h]
theorem form10 {n : Nat} (hn : n < 18446744073709551616) : (formN n).length ≤ 10 := formN_len 10 n (Nat.lt_of_lt_of_le hn (by decide)) (by decide)
def pv (ds : List Int) : Nat → Int
 | 0 => 0
 | k + 1 => pv ds k + at0 ds k * 10 ^ k
def Dg (ds : List Int) : Prop := ∀ j, 0 ≤ at0 ds j ∧ at0 ds j ≤ 9
def vl (ds : List Int) : Int := pv ds ds.length
theorem p10 (k : Nat) : (0 : Int) < 10 ^ k := Int.pow_pos (by decide)
theorem at0_set (ds : List Int) (j : Nat) (s : Int) (i : Nat) (hj : j < ds.length) : at0 (ds.set j s) i = if i = j then s else at0 ds i := by
 simp only [at0, List.getD_eq_getElem?_getD, List.getElem?_set]
 by_cases e : i = j
 ·subst e; simp [hj]
 ·simp [e, Ne.symm e]
theorem Dg.set {ds : List Int} (hd : Dg ds) (j : Nat) (s : Int) (hj : j < ds.length) (h0 : 0 ≤ s) (h1 : s ≤ 9) : Dg (ds.set j s) := by
 intro i
 rw [at0_set ds j s i hj]
 split
 ·exact ⟨h0, h1⟩
 ·exact hd i
theorem at0_append (ds : List Int) (s : Int) (i : Nat) : at0 (ds ++ [s]) i = if i < ds.length then at0 ds i else if i = ds.length then s else 0 := by
 simp only [at0, List.getD_eq_getElem?_getD]
 by_cases e : i < ds.length
 ·simp [e, List.getElem?_append_left e]
 ·rw [if_neg e, List.getElem?_append_right (by omega)]
  by_cases e2 : i = ds.length
  ·subst e2; simp
  ·rw [if_neg e2, List.getElem?_eq_none (by simp; omega)]; rfl
theorem Dg.append {ds : List Int} (hd : Dg ds) {s : Int} (h0 : 0 ≤ s) (h1 : s ≤ 9) : Dg (ds ++ [s]) := by
 intro i
 rw [at0_append]
 have := hd i
 split
 ·exact this
 ·split
  ·exact ⟨h0, h1⟩
  ·omega
def Nt (h : PH) (v : Value) (n : Int) (m : Nat) : Prop := ∃ s ds, v = .agg #[s] ∧ Ints h .i64 s ds ∧ Dg ds ∧ vl ds = n ∧ ds.length ≤ m
theorem Nt.up {h h' : PH} (le : PH.le h h') {v : Value} {n : Int} {m : Nat} (hs : Nt h v n m) : Nt h' v n m := by
 obtain ⟨s, ds, h1, h2, h3⟩ := hs
 exact ⟨s, ds, h1, h2.up le, h3⟩
end Go.X

/- Contracts of coder's tape and Writer: form, good, fail, put, Num, Int, Raw, Flag, Out. Conditions: the writer is the call's own. -/
import Derived.Test.YtfilkbfkhdaakaaGreatTy
import Derived.Test.YtfilkbfkhdaakaaGreatXA
import Derived.Test.YtfilkbfkhdaakaaGreatPlainA
set_option linter.unusedVariables false
set_option linter.unusedSimpArgs false
namespace Go.X
open Go.RowKit Go.Proofs Go.Bl
variable {L : Own} {h : PH} {K : PK}

theorem good_any {T cap b : Nat} {v : Value} {e : Int} {cs : List Value} (hk : K (.bool (decide (e = 0))) (⟨b, T, v :: .int .i64 e :: cs, cap⟩ :: L) h) (hT : T ≠ 4294967295 := by first | decide | omega) :
    Spec Tryz.prog 181 [.pointer (some ⟨b, 0, none⟩)] (⟨b, T, v :: .int .i64 e :: cs, cap⟩ :: L) h K := by
  refine x_enterA Tryz.func181 rfl (rs := [_]) rfl rfl mixed (by kernel_rfl) rfl rfl fun ap nd => ?_
  obtain ⟨hb, _⟩ := ap
  simp -dsimp -implicitDefEqProofs (disch := first | with_reducible assumption | omega) [go_sem]
  exact fin_here hk
theorem fail_any {T cap b : Nat} {v : Value} {e n : Int} {cs : List Value} (hk : K (.tuple #[]) (⟨b, T, v :: .int .i64 (if e = 0 then n else e) :: cs, cap⟩ :: L) h) (hT : T ≠ 4294967295 := by first | decide | omega) :
    Spec Tryz.prog 180 [.pointer (some ⟨b, 0, none⟩), .int .i64 n] (⟨b, T, v :: .int .i64 e :: cs, cap⟩ :: L) h K := by
  refine x_enterA Tryz.func180 rfl (rs := []) rfl rfl mixed (by kernel_rfl) rfl rfl fun ap nd => ?_
  obtain ⟨hb, _⟩ := ap
  simp -dsimp -implicitDefEqProofs (disch := first | with_reducible assumption | omega) [go_sem]
  by_cases c : e = 0
  · simp -dsimp -implicitDefEqProofs (disch := first | with_reducible assumption | omega) [go_sem]
    exact fin_here (by simpa [c] using hk)
  · simp -dsimp -implicitDefEqProofs (disch := first | with_reducible assumption | omega) [go_sem]
    rw [if_neg c] at hk
    exact fin_here hk
/-- what a writer does with bytes: what was written, an error's number -/
def wPut (s : List Int × Int) (b : List Int) : List Int × Int := if s.2 ≠ 0 then s else if s.1.length + b.length > 131072 then (s.1, 3) else (s.1 ++ b, 0)
def wInt (s : List Int × Int) (n : Int) : List Int × Int := if n < 0 then (s.1, if s.2 = 0 then 2 else s.2) else wPut s (formN n.toNat)
theorem and127 (m : Nat) (hm : m < 18446744073709551616) : bits .or .u8 (IntKind.u8.wrap (bits .and .u64 (m : Int) 127)) 128 = ((m % 128 + 128 : Nat) : Int) := by
  have h1 : bits .and .u64 (m : Int) ((127 : Nat) : Int) = ((m &&& 127 : Nat) : Int) := u64_and_nat m 127 hm (by decide)
  have h2 : m &&& 127 = m % 128 := Nat.and_two_pow_sub_one_eq_mod m 7
  have h3 : bits .and .u64 (m : Int) 127 = ((m % 128 : Nat) : Int) := by rw [← h2]; exact h1
  rw [h3, wrap_u8 _ (by omega) (by omega)]
  have h4 : bits .or .u8 ((m % 128 : Nat) : Int) ((128 : Nat) : Int) = ((m % 128 ||| 128 : Nat) : Int) := u8_or_nat (m % 128) 128 (by omega) (by decide)
  have h5 : ∀ k, k < 128 → k ||| 128 = k + 128 := by decide
  rw [h5 _ (by omega)] at h4
  exact h4
set_option maxRecDepth 20000 in
theorem form_any (n : Nat) (hn : n < 18446744073709551616) (hk : ∀ o, okO o (formN n).length → apO o L h → K (ovs o (formN n).length) (oent 5 1 o ((formN n).map (.int .u8)) L) h) : Spec Tryz.prog 183 [.int .u64 n] L h K := by
  have h10 := formN_len 10 n (Nat.lt_of_lt_of_le hn (by decide)) (by decide)
  refine x_enter Tryz.func183 rfl (rs := [_]) rfl rfl mixed (by kernel_rfl) rfl rfl ?_
  simp -dsimp -implicitDefEqProofs (disch := first | with_reducible assumption | omega) [go_sem]
  refine xloop (γ := Nat × Option (Nat × Nat) × List Int) (n, none, [])
    (fun s => s.1 < 18446744073709551616 ∧ s.2.2 ++ formN s.1 = formN n ∧ okO s.2.1 s.2.2.length ∧ apO s.2.1 L h)
    (fun s => [(0, .int .u64 s.1), (3, ovs s.2.1 s.2.2.length)]) (fun s => oent 5 1 s.2.1 (s.2.2.map (.int .u8)) L) (fun _ => h) (fun s => s.1) ?_ ?_ ?_ ?_
  · exact ⟨hn, rfl, rfl, trivial⟩
  · simp [Ent, List.lookup, xEnv, ovs]
  · exact Drop.refl _ _
  rintro ⟨m, o, bs⟩ ⟨i1, i2, i4, i5⟩
  simp only at i1 i2 i4 i5 ⊢
  have hlen : bs.length + (formN m).length = (formN n).length := by rw [← i2, List.length_append]
  have hpos := formN_pos m
  by_cases c : m < 128
  · simp -dsimp -implicitDefEqProofs (disch := first | with_reducible assumption | omega) [go_sem]
    refine xnew fun b1 n_b1 h_b1 => ?_
    try simp only [Apart] at n_b1
    simp -dsimp -implicitDefEqProofs (disch := first | with_reducible assumption | omega) [go_sem]
    refine xappend (t := 31) (e := 5) (sz := 1) (bytes := 1) (z := [.int .u8 0]) (by kernel_rfl) tI_5 rfl rfl rfl rfl (by decide) [⟨b1, 5, [.int .u8 m], 1⟩] L o bs.length (bs.map (.int .u8)) i4 (by simp) (m := 1) (news := [.int .u8 m]) (Src.own (b := b1) (t := 5) (cap := 1) (by simp)) (by simp) (by simp [Value.oneCell']) (by simp only [maxLen]; omega) (by omega) ?_
    intro o' j1 j2 j3
    simp -dsimp -implicitDefEqProofs (disch := first | with_reducible assumption | omega) [go_sem]
    have e : formN n = bs ++ [(m : Int)] := by rw [← i2, formN_lt c]
    have := hk o' (by rw [e]; simpa using j1) (apO_tail j2)
    rw [e] at this
    simp only [List.length_append, List.length_singleton, List.map_append, List.map_cons, List.map_nil] at this
    exact fin_tail (fin_here this)
  · simp -dsimp -implicitDefEqProofs (disch := first | with_reducible assumption | omega) [go_sem]
    rw [and127 m i1]
    refine xnew fun b1 n_b1 h_b1 => ?_
    try simp only [Apart] at n_b1
    simp -dsimp -implicitDefEqProofs (disch := first | with_reducible assumption | omega) [go_sem]
    refine xappend (t := 31) (e := 5) (sz := 1) (bytes := 1) (z := [.int .u8 0]) (by kernel_rfl) tI_5 rfl rfl rfl rfl (by decide) [⟨b1, 5, [.int .u8 ((m % 128 + 128 : Nat) : Int)], 1⟩] L o bs.length (bs.map (.int .u8)) i4 (by simp) (m := 1) (news := [.int .u8 ((m % 128 + 128 : Nat) : Int)]) (Src.own (b := b1) (t := 5) (cap := 1) (by simp)) (by simp) (by simp [Value.oneCell']) (by simp only [maxLen]; omega) (by omega) ?_
    intro o' j1 j2 j3
    simp -dsimp -implicitDefEqProofs (disch := first | with_reducible assumption | omega) [go_sem]
    have hl2 : (formN m).length = (formN (m / 128)).length + 1 := by rw [formN_ge c]; rfl
    refine ⟨m / 128, o', bs ++ [((m % 128 + 128 : Nat) : Int)], ⟨by omega, by rw [← i2, formN_ge c]; simp, by simpa using j1, apO_tail j2⟩, by omega, by simp [Ent, List.lookup], ?_⟩
    push_cast
    simp only [List.map_append, List.map_cons, List.map_nil]
    exact Drop.tail _ _ _
theorem wPut_len {s : List Int × Int} {b : List Int} (h : s.1.length ≤ 131072) : (wPut s b).1.length ≤ 131072 := by
  unfold wPut
  split
  · exact h
  · split
    · exact h
    · simp only [List.length_append]; omega
theorem put_any {bw : Nat} {o : Option (Nat × Nat)} {bs b : List Int} (A : Own) (v : Value) (hv : Ints h .u8 v b) (hb : b.length ≤ 1000000) (ho : okO o bs.length) (hl : bs.length ≤ 131072)
    (hk : ∀ o', okO o' (wPut (bs, 0) b).1.length → K (.tuple #[]) (⟨bw, 155, [ovs o' (wPut (bs, 0) b).1.length, .int .i64 (wPut (bs, 0) b).2], 2⟩ :: (A ++ oent 5 1 o' ((wPut (bs, 0) b).1.map (.int .u8)) L)) h) :
    Spec Tryz.prog 182 [.pointer (some ⟨bw, 0, none⟩), v] (⟨bw, 155, [ovs o bs.length, .int .i64 0], 2⟩ :: (A ++ oent 5 1 o (bs.map (.int .u8)) L)) h K := by
  obtain ⟨ov1, ov2, hov, _⟩ := ovs_open ho
  have ob := hv.open
  obtain ⟨a, c, rfl, _⟩ := ob
  refine x_enterA Tryz.func182 rfl (rs := []) rfl rfl mixed (by kernel_rfl) rfl rfl fun ap nd => ?_
  obtain ⟨ap1, _⟩ := ap
  rw [hov]
  simp -dsimp -implicitDefEqProofs (disch := first | with_reducible assumption | omega) [go_sem]
  refine xif_dec (fun c1 => ?_) (fun c1 => ?_)
  · simp -dsimp -implicitDefEqProofs (disch := first | with_reducible assumption | omega) [go_sem]
    refine fail_any ?_
    simp -dsimp -implicitDefEqProofs (disch := first | with_reducible assumption | omega) [go_sem]
    have e : wPut (bs, 0) b = (bs, 3) := by simp [wPut]; omega
    rw [e] at hk
    rw [← hov]
    exact fin_here (hk o ho)
  · simp -dsimp -implicitDefEqProofs (disch := first | with_reducible assumption | omega) [go_sem]
    rw [← hov]
    refine xappend (t := 31) (e := 5) (sz := 1) (bytes := 1) (z := [.int .u8 0]) (by kernel_rfl) tI_5 rfl rfl rfl rfl (by decide) (⟨bw, 155, [ovs o bs.length, .int .i64 0], 2⟩ :: A) L o bs.length (bs.map (.int .u8)) ho (by simp) (m := b.length) (Src.known hv.1) (by simp) (ints_one _ _) (by simp only [maxLen]; omega) (by omega) ?_
    intro o' j1 j2 j3
    simp -dsimp -implicitDefEqProofs (disch := first | with_reducible assumption | omega) [go_sem]
    have e : wPut (bs, 0) b = (bs ++ b, 0) := by simp [wPut]; omega
    rw [e] at hk
    have := hk o' (by simpa using j1)
    simp only [List.length_append, List.map_append] at this
    exact fin_here this
theorem form_ints {h : PH} {o : Option (Nat × Nat)} {b : List Int} (hb : ∀ z ∈ b, 0 ≤ z ∧ z ≤ 255) (sl : Sl h (ovs o b.length) b.length 1 (b.map (.int .u8))) : Ints h .u8 (ovs o b.length) b :=
  ⟨sl, fun z hz => by rw [show IntKind.u8.min = 0 by decide, show IntKind.u8.max = 255 by decide]; exact hb z hz⟩
/-- a writer: what was written, an error's number -/
abbrev wO (bw : Nat) (o : Option (Nat × Nat)) (s : List Int × Int) (A L : Own) : Own := ⟨bw, 155, [ovs o s.1.length, .int .i64 s.2], 2⟩ :: (A ++ oent 5 1 o (s.1.map (.int .u8)) L)
theorem wnum_any {bw : Nat} {o : Option (Nat × Nat)} {s : List Int × Int} (A : Own) (n : Nat) (hn : n < 18446744073709551616) (ho : okO o s.1.length) (hl : s.1.length ≤ 131072)
    (hk : ∀ h' o', PH.le h h' → okO o' (wPut s (formN n)).1.length → K (.tuple #[]) (wO bw o' (wPut s (formN n)) A L) h') :
    Spec Tryz.prog 81 [.pointer (some ⟨bw, 0, none⟩), .int .u64 n] (wO bw o s A L) h K := by
  have h10 := formN_len 10 n (Nat.lt_of_lt_of_le hn (by decide)) (by decide)
  obtain ⟨bs, e⟩ := s
  simp only [wO] at ho hl ⊢
  refine x_enterA Tryz.func81 rfl (rs := []) rfl rfl mixed (by kernel_rfl) rfl rfl fun ap nd => ?_
  obtain ⟨ap1, _⟩ := ap
  simp -dsimp -implicitDefEqProofs (disch := first | with_reducible assumption | omega) [go_sem]
  refine good_any ?_
  by_cases c : e = 0
  · subst c
    simp -dsimp -implicitDefEqProofs (disch := first | with_reducible assumption | omega) [go_sem]
    refine form_any n hn fun o1 k1 k2 => ?_
    simp -dsimp -implicitDefEqProofs (disch := first | with_reducible assumption | omega) [go_sem]
    refine call_pub k1 (by simp) (by omega) k2 fun h' le sl => ?_
    refine put_any A _ (form_ints (formN_byte n) sl) (by omega) ho hl fun o' k3 => ?_
    simp -dsimp -implicitDefEqProofs (disch := first | with_reducible assumption | omega) [go_sem]
    exact fin_here (hk h' o' le k3)
  · simp -dsimp -implicitDefEqProofs (disch := first | with_reducible assumption | omega) [go_sem]
    have e1 : wPut (bs, e) (formN n) = (bs, e) := by simp [wPut, c]
    rw [e1] at hk
    exact fin_here (hk h o (PH.le_refl h) ho)
theorem wInt_len {s : List Int × Int} {n : Int} (h : s.1.length ≤ 131072) : (wInt s n).1.length ≤ 131072 := by
  unfold wInt
  split
  · exact h
  · exact wPut_len h
theorem wint_any {bw : Nat} {o : Option (Nat × Nat)} {s : List Int × Int} (A : Own) (n : Int) (hn : n ≤ 9223372036854775807) (ho : okO o s.1.length) (hl : s.1.length ≤ 131072)
    (hk : ∀ h' o', PH.le h h' → okO o' (wInt s n).1.length → K (.tuple #[]) (wO bw o' (wInt s n) A L) h') :
    Spec Tryz.prog 80 [.pointer (some ⟨bw, 0, none⟩), .int .i64 n] (wO bw o s A L) h K := by
  refine x_enterA Tryz.func80 rfl (rs := []) rfl rfl mixed (by kernel_rfl) rfl rfl fun ap nd => ?_
  obtain ⟨ap1, _⟩ := ap
  by_cases c : n < 0
  · simp -dsimp -implicitDefEqProofs (disch := first | with_reducible assumption | omega) [go_sem]
    refine fail_any ?_
    simp -dsimp -implicitDefEqProofs (disch := first | with_reducible assumption | omega) [go_sem]
    have e : wInt s n = (s.1, if s.2 = 0 then 2 else s.2) := by simp [wInt, c]
    rw [e] at hk
    exact fin_here (hk h o (PH.le_refl h) ho)
  · simp -dsimp -implicitDefEqProofs (disch := first | with_reducible assumption | omega) [go_sem]
    obtain ⟨m, rfl⟩ := Int.eq_ofNat_of_zero_le (show 0 ≤ n by omega)
    have e : wInt s (m : Int) = wPut s (formN m) := by rw [wInt, if_neg (by omega)]; rfl
    rw [e] at hk
    refine wnum_any A m (by omega) ho hl fun h' o' le k => ?_
    simp -dsimp -implicitDefEqProofs (disch := first | with_reducible assumption | omega) [go_sem]
    exact fin_here (hk h' o' le k)
theorem wflag_any {bw : Nat} {o : Option (Nat × Nat)} {s : List Int × Int} (A : Own) (on : Bool) (ho : okO o s.1.length) (hl : s.1.length ≤ 131072)
    (hk : ∀ h' o', PH.le h h' → okO o' (wPut s (formN on.toNat)).1.length → K (.tuple #[]) (wO bw o' (wPut s (formN on.toNat)) A L) h') :
    Spec Tryz.prog 321 [.pointer (some ⟨bw, 0, none⟩), .bool on] (wO bw o s A L) h K := by
  refine x_enterA Tryz.func321 rfl (rs := []) rfl rfl mixed (by kernel_rfl) rfl rfl fun ap nd => ?_
  cases on with
  | true =>
    simp -dsimp -implicitDefEqProofs (disch := first | with_reducible assumption | omega) [go_sem]
    refine wnum_any A 1 (by omega) ho hl fun h' o' le k => ?_
    simp -dsimp -implicitDefEqProofs (disch := first | with_reducible assumption | omega) [go_sem]
    exact fin_here (hk h' o' le k)
  | false =>
    simp -dsimp -implicitDefEqProofs (disch := first | with_reducible assumption | omega) [go_sem]
    refine wnum_any A 0 (by omega) ho hl fun h' o' le k => ?_
    simp -dsimp -implicitDefEqProofs (disch := first | with_reducible assumption | omega) [go_sem]
    exact fin_here (hk h' o' le k)
theorem wraw_any {bw : Nat} {o : Option (Nat × Nat)} {s : List Int × Int} {b : List Int} (A : Own) (v : Value) (hv : Ints h .u8 v b) (hb : b.length ≤ 900000) (ho : okO o s.1.length) (hl : s.1.length ≤ 131072)
    (hk : ∀ h' o', PH.le h h' → okO o' (wPut s (rawN b)).1.length → K (.tuple #[]) (wO bw o' (wPut s (rawN b)) A L) h') :
    Spec Tryz.prog 82 [.pointer (some ⟨bw, 0, none⟩), v] (wO bw o s A L) h K := by
  have h10 := formN_len 10 b.length (by have : (128 : Nat) ^ 10 = 1180591620717411303424 := by decide
                                        omega) (by decide)
  have hbb : ∀ z ∈ b, 0 ≤ z ∧ z ≤ 255 := fun z hz => by
    have := hv.2 z hz
    rwa [show IntKind.u8.min = 0 by decide, show IntKind.u8.max = 255 by decide] at this
  have ob := hv.open
  obtain ⟨a, c, rfl, _⟩ := ob
  obtain ⟨bs, e⟩ := s
  simp only [wO] at ho hl ⊢
  refine x_enterA Tryz.func82 rfl (rs := []) rfl rfl mixed (by kernel_rfl) rfl rfl fun ap nd => ?_
  obtain ⟨ap1, _⟩ := ap
  simp -dsimp -implicitDefEqProofs (disch := first | with_reducible assumption | omega) [go_sem]
  refine good_any ?_
  by_cases c : e = 0
  · subst c
    simp -dsimp -implicitDefEqProofs (disch := first | with_reducible assumption | omega) [go_sem]
    refine form_any b.length (by omega) fun o1 k1 k2 => ?_
    simp -dsimp -implicitDefEqProofs (disch := first | with_reducible assumption | omega) [go_sem]
    refine xappend (t := 31) (e := 5) (sz := 1) (bytes := 1) (z := [.int .u8 0]) (by kernel_rfl) tI_5 rfl rfl rfl rfl (by decide) [] _ o1 (formN b.length).length ((formN b.length).map (.int .u8)) k1 (by simp) (m := b.length) (Src.known hv.1) (by simp) (ints_one _ _) (by simp only [maxLen]; omega) (by omega) ?_
    intro o2 j1 j2 j3
    simp only [List.nil_append] at j2 ⊢
    rw [← List.map_append, show (formN b.length).length + b.length = (rawN b).length by simp [rawN]] 
    rw [show (formN b.length).length + b.length = (rawN b).length by simp [rawN]] at j1
    change okO o2 (rawN b).length at j1
    simp -dsimp -implicitDefEqProofs (disch := first | with_reducible assumption | omega) [go_sem]
    refine call_pub (n := (rawN b).length) j1 (by simp [rawN]) (by simp [rawN]; omega) j2 fun h' le sl => ?_
    have sl' : Sl h' (ovs o2 (rawN b).length) (rawN b).length 1 ((rawN b).map (.int .u8)) := by
      rw [show (rawN b).map (Value.int .u8) = (formN b.length).map (.int .u8) ++ b.map (.int .u8) by simp [rawN]]
      exact sl
    refine put_any A _ (form_ints (b := rawN b) (fun z hz => by
      rcases List.mem_append.1 hz with hz | hz
      · exact formN_byte _ z hz
      · exact hbb z hz) sl') (by simp [rawN]; omega) ho hl fun o' k3 => ?_
    simp -dsimp -implicitDefEqProofs (disch := first | with_reducible assumption | omega) [go_sem]
    exact fin_here (hk h' o' le k3)
  · simp -dsimp -implicitDefEqProofs (disch := first | with_reducible assumption | omega) [go_sem]
    have e1 : wPut (bs, e) (rawN b) = (bs, e) := by simp [wPut, c]
    rw [e1] at hk
    exact fin_here (hk h o (PH.le_refl h) ho)
theorem wout_any {bw : Nat} {o : Option (Nat × Nat)} {s : List Int × Int} (A : Own) (hb : ∀ z ∈ s.1, 0 ≤ z ∧ z ≤ 255) (ho : okO o s.1.length) (hl : s.1.length ≤ 131072)
    (hk : ∀ h' r, PH.le h h' → (s.2 = 0 → Ints h' .u8 r s.1) → (s.2 ≠ 0 → r = .slice none 0 0) → K (.tuple #[r, .int .i64 s.2]) (wO bw o s A L) h') :
    Spec Tryz.prog 83 [.pointer (some ⟨bw, 0, none⟩)] (wO bw o s A L) h K := by
  obtain ⟨bs, e⟩ := s
  simp only [wO] at ho hl hb hk ⊢
  refine x_enterA Tryz.func83 rfl (rs := [_, _]) rfl rfl mixed (by kernel_rfl) rfl rfl fun ap nd => ?_
  obtain ⟨ap1, _⟩ := ap
  simp -dsimp -implicitDefEqProofs (disch := first | with_reducible assumption | omega) [go_sem]
  refine good_any ?_
  by_cases c : e = 0
  · subst c
    obtain ⟨ov1, ov2, hov, _⟩ := ovs_open ho
    simp -dsimp -implicitDefEqProofs (disch := first | with_reducible assumption | omega) [go_sem]
    have hsrc : Src (⟨bw, 155, [ovs o bs.length, .int .i64 0], 2⟩ :: (A ++ oent 5 1 o (bs.map (.int .u8)) L)) h (ovs o bs.length) bs.length (bs.map (.int .u8)) := by
      cases o with
      | none =>
        have : bs.length = 0 := ho
        have : bs = [] := List.eq_nil_of_length_eq_zero this
        subst this
        exact Or.inl ⟨rfl, rfl, rfl⟩
      | some p =>
        obtain ⟨b, cap⟩ := p
        exact Src.own (b := b) (t := 5) (cap := cap * 1) (by simp [oent])
    refine xappend (t := 31) (e := 5) (sz := 1) (bytes := 1) (z := [.int .u8 0]) (by kernel_rfl) tI_5 rfl rfl rfl rfl (by decide) [] _ none 0 [] rfl rfl (m := bs.length) hsrc (by simp) (ints_one _ _) (by simp only [maxLen]; omega) (by omega) ?_
    intro o2 j1 j2 j3
    simp only [Nat.zero_add, List.nil_append] at j1 j2 ⊢
    simp -dsimp -implicitDefEqProofs (disch := first | with_reducible assumption | omega) [go_sem]
    refine fin_pub (n := bs.length) j1 (by simp) (by omega) j2 fun h' le sl => fin_here (hk h' _ le (fun _ => form_ints hb sl) fun h0 => absurd rfl h0)
  · simp -dsimp -implicitDefEqProofs (disch := first | with_reducible assumption | omega) [go_sem]
    refine xdraw (by kernel_rfl) rfl ?_
    simp -dsimp -implicitDefEqProofs (disch := first | with_reducible assumption | omega) [go_sem]
    exact fin_here (hk h _ (PH.le_refl h) (fun h0 => absurd h0 c) fun _ => rfl)
theorem wPut_ok {bs b : List Int} (h : bs.length + b.length ≤ 131072) : wPut (bs, 0) b = (bs ++ b, 0) := by
  simp only [wPut, ne_eq, not_true_eq_false, if_false]
  rw [if_neg (by omega)]
theorem wInt_ok {bs : List Int} {n : Int} (h0 : 0 ≤ n) (h : bs.length + (formN n.toNat).length ≤ 131072) : wInt (bs, 0) n = (bs ++ formN n.toNat, 0) := by
  rw [wInt, if_neg (by omega), wPut_ok h]
theorem form10 {n : Nat} (hn : n < 18446744073709551616) : (formN n).length ≤ 10 := formN_len 10 n (Nat.lt_of_lt_of_le hn (by decide)) (by decide)
theorem wint_ok {bw : Nat} {o : Option (Nat × Nat)} {bs : List Int} (A : Own) (n : Int) (h0 : 0 ≤ n) (hn : n ≤ 9223372036854775807) (ho : okO o bs.length) (hl : bs.length ≤ 131000)
    (hk : ∀ h' o' B, PH.le h h' → B = bs ++ formN n.toNat → okO o' B.length → B.length ≤ bs.length + 10 → K (.tuple #[]) (wO bw o' (B, 0) A L) h') :
    Spec Tryz.prog 80 [.pointer (some ⟨bw, 0, none⟩), .int .i64 n] (wO bw o (bs, 0) A L) h K := by
  have l := form10 (n := n.toNat) (by omega)
  refine wint_any (s := (bs, 0)) A n hn ho (by simp only; omega) fun h' o' le k => ?_
  rw [wInt_ok h0 (by omega)] at k ⊢
  exact hk h' o' _ le rfl k (by simp only [List.length_append]; omega)
theorem wnum_ok {bw : Nat} {o : Option (Nat × Nat)} {bs : List Int} (A : Own) (n : Int) (h0 : 0 ≤ n) (hn : n ≤ 18446744073709551615) (ho : okO o bs.length) (hl : bs.length ≤ 131000)
    (hk : ∀ h' o' B, PH.le h h' → B = bs ++ formN n.toNat → okO o' B.length → B.length ≤ bs.length + 10 → K (.tuple #[]) (wO bw o' (B, 0) A L) h') :
    Spec Tryz.prog 81 [.pointer (some ⟨bw, 0, none⟩), .int .u64 n] (wO bw o (bs, 0) A L) h K := by
  have l := form10 (n := n.toNat) (by omega)
  obtain ⟨m, rfl⟩ := Int.eq_ofNat_of_zero_le h0
  simp only [Int.toNat_natCast] at l hk
  refine wnum_any (s := (bs, 0)) A m (by omega) ho (by simp only; omega) fun h' o' le k => ?_
  rw [wPut_ok (by omega)] at k ⊢
  exact hk h' o' _ le rfl k (by simp only [List.length_append]; omega)
end Go.X

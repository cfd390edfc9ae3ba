/- Lemmas and contracts for a statement about the given program. Conditions: as each says. -/
import Derived.Test.YtkmojeioedjfkaaGreatQ03
import Derived.Test.YtkmojeioedjfkaaGreatQ07
import Derived.Test.YtkmojeioedjfkaaGreatQ09
import Derived.Test.YtkmojeioedjfkaaGreatQ12
import Derived.Test.YtkmojeioedjfkaaGreatQ13
set_option linter.unusedVariables false
set_option linter.unusedSimpArgs false
set_option maxHeartbeats 12800000
set_option maxRecDepth 20000
namespace Go.X
open Go.RowKit Go.Proofs Go.Bl
variable {L : Own} {h : PH} {K : PK}
theorem IsCert.range {v : Value} {c : CertD} (hc : IsCert h v c) (i : Nat) : 0 ≤ at0 c.st i ∧ at0 c.st i ≤ 18446744073709551615 := by
 obtain ⟨_, _, _, hs, _⟩ := hc; exact hs.word i
theorem flatN_snoc (st : List Int) (i : Nat) (hi : i < st.length) : flatN (st.take (i + 1)) = flatN (st.take i) ++ formN (at0 st i).toNat := by
 rw [List.take_succ_eq_append_getElem hi, flatN_append, at0_lt hi]
 simp [flatN]
def ptrs (b i : Nat) : Nat → List Value
 | 0 => []
 | n + 1 => .pointer (some ⟨b, i, none⟩) :: ptrs b (i + 1) n
theorem ptrs_get (b : Nat) : ∀ (n i j : Nat), j < n → (ptrs b i n)[j]? = some (.pointer (some ⟨b, i + j, none⟩))
 | 0, _, _, h => by omega
 | n + 1, i, 0, _ => rfl
 | n + 1, i, j + 1, h => by
  rw [ptrs, List.getElem?_cons_succ, ptrs_get b n (i + 1) j (by omega), show i + 1 + j = i + (j + 1) by omega]
theorem list64_any (v : Value) (hk : K v L h) : Spec Tryz.prog 238 [v] L h K := by
 refine x_enter Tryz.func238 rfl (rs := [_]) rfl rfl mixed (by kernel_rfl) rfl rfl ?_
 simp -dsimp -implicitDefEqProofs (disch := first|with_reducible assumption|omega) [go_sem]
 exact fin_here hk
theorem listi_any (v : Value) (hk : K v L h) : Spec Tryz.prog 239 [v] L h K := by
 refine x_enter Tryz.func239 rfl (rs := [_]) rfl rfl mixed (by kernel_rfl) rfl rfl ?_
 simp -dsimp -implicitDefEqProofs (disch := first|with_reducible assumption|omega) [go_sem]
 exact fin_here hk
theorem wides_any (b : Nat) (hk : ∀ h' v, PH.le h h' → Sl h' v 14 1 (ptrs b 0 14) → K v L h') : Spec Tryz.prog 236 [.pointer (some ⟨b, 0, none⟩)] L h K := by
 refine x_enter Tryz.func236 rfl (rs := [_]) rfl rfl mixed (by kernel_rfl) rfl rfl ?_
 simp -dsimp -implicitDefEqProofs (disch := first|with_reducible assumption|omega) [go_sem]
 refine xany (.tk 0 (.tk 1 (.tk 2 (.tk 3 (.tk 4 (.tk 5 (.tk 6 (.tk 7 (.tk 8 (.tk 9 (.tk 10 (.tk 11 (.tk 12 (.tk 13 (.tk 14 (.tk 15 (.tk 16 (.tk 17 (.tk 18 (.tk 19 (.tk 20 (.tk 21 (.tk 22 (.tk 23 (.tk 24 (.tk 25 (.tk 26 (.tk 27 (.tk 28 (.tk 29 (.tk 30 (.tk 31 (.tk 32 (.tk 33 (.tk 34 (.tk 35 (.tk 36 (.tk 37 (.tk 38 (.tk 39 (.tk 40 (.tk 41 (.or true 42 (.or true 43 (.tk 44 (.fin)) (.nil)) (.nil)))))))))))))))))))))))))))))))))))))))))))) (by kernel_rfl) (by kernel_rfl) ?_
 simp -dsimp -implicitDefEqProofs (disch := first|with_reducible assumption|omega) [go_sem]
 refine xnew fun b1 n_b1 h_b1 => ?_
 try simp only [Apart] at n_b1
 simp -dsimp -implicitDefEqProofs (disch := first|with_reducible assumption|omega) [go_sem]
 refine call_pub_at (sz := 1) (n := 14) (cap := 14) [] ⟨Nat.le_refl _, by decide⟩ rfl (by decide) h_b1 fun h2 le2 s2 f2 => ?_
 refine list64_any _ ?_
 simp -dsimp -implicitDefEqProofs (disch := first|with_reducible assumption|omega) [go_sem]
 exact fin_here (hk h2 _ le2 s2)
theorem narrows_any (b : Nat) (hk : ∀ h' v, PH.le h h' → Sl h' v 10 1 (ptrs b 14 10) → K v L h') : Spec Tryz.prog 237 [.pointer (some ⟨b, 0, none⟩)] L h K := by
 refine x_enter Tryz.func237 rfl (rs := [_]) rfl rfl mixed (by kernel_rfl) rfl rfl ?_
 simp -dsimp -implicitDefEqProofs (disch := first|with_reducible assumption|omega) [go_sem]
 refine xany (.tk 0 (.tk 1 (.tk 2 (.tk 3 (.tk 4 (.tk 5 (.tk 6 (.tk 7 (.tk 8 (.tk 9 (.tk 10 (.tk 11 (.tk 12 (.tk 13 (.tk 14 (.tk 15 (.tk 16 (.tk 17 (.tk 18 (.tk 19 (.tk 20 (.tk 21 (.tk 22 (.tk 23 (.tk 24 (.tk 25 (.tk 26 (.tk 27 (.tk 28 (.tk 29 (.or true 30 (.or true 31 (.tk 32 (.fin)) (.nil)) (.nil)))))))))))))))))))))))))))))))) (by kernel_rfl) (by kernel_rfl) ?_
 simp -dsimp -implicitDefEqProofs (disch := first|with_reducible assumption|omega) [go_sem]
 refine xnew fun b1 n_b1 h_b1 => ?_
 try simp only [Apart] at n_b1
 simp -dsimp -implicitDefEqProofs (disch := first|with_reducible assumption|omega) [go_sem]
 refine call_pub_at (sz := 1) (n := 10) (cap := 10) [] ⟨Nat.le_refl _, by decide⟩ rfl (by decide) h_b1 fun h2 le2 s2 f2 => ?_
 refine listi_any _ ?_
 simp -dsimp -implicitDefEqProofs (disch := first|with_reducible assumption|omega) [go_sem]
 exact fin_here (hk h2 _ le2 s2)
theorem xNth_parw (p : ParD) (k : Nat) (hk : k < 14) (K : Value → Prop) (t : Tok K) : xNth (parC p) k K t = K (.int .u64 (at0 (wides p) k)) := by
 have e : (parC p)[k]? = some (.int .u64 (at0 (wides p) k)) := by
  rcases (show k = 0 ∨ k = 1 ∨ k = 2 ∨ k = 3 ∨ k = 4 ∨ k = 5 ∨ k = 6 ∨ k = 7 ∨ k = 8 ∨ k = 9 ∨ k = 10 ∨ k = 11 ∨ k = 12 ∨ k = 13 by omega) with rfl | rfl | rfl | rfl | rfl | rfl | rfl | rfl | rfl | rfl | rfl | rfl | rfl | rfl <;> rfl
 simp [xNth, e]
theorem xNth_parn (p : ParD) (k : Nat) (hk : k < 10) (K : Value → Prop) (t : Tok K) : xNth (parC p) (14 + k) K t = K (.int .i64 (at0 (narrows p) k)) := by
 have e : (parC p)[14 + k]? = some (.int .i64 (at0 (narrows p) k)) := by
  rcases (show k = 0 ∨ k = 1 ∨ k = 2 ∨ k = 3 ∨ k = 4 ∨ k = 5 ∨ k = 6 ∨ k = 7 ∨ k = 8 ∨ k = 9 by omega) with rfl | rfl | rfl | rfl | rfl | rfl | rfl | rfl | rfl | rfl <;> rfl
 simp [xNth, e]
theorem Sl.openp {v : Value} {b i n : Nat} (hs : Sl h v n 1 (ptrs b i n)) : ∃ a cap, v = .slice a n cap ∧ n ≤ cap ∧ ∀ j, j < n → elemCell h a j = some ((fun j => .pointer (some ⟨b, i + j, none⟩)) j) := by
 obtain ⟨h1, a, cap, h2, h3, h4, h4', h5, h6⟩ := hs
 exact ⟨a, cap, h2, h3, fun j hj => h6 j _ (ptrs_get b n i j hj)⟩
theorem narrows_pos {p : ParD} (hr : parR p = true) : ∀ z ∈ narrows p, 0 ≤ z ∧ z ≤ 10000 := by
 have h3 : othersB p = true := by
  simp only [parR, Bool.and_eq_true] at hr; exact hr.1.2
 simp only [othersB, List.all_cons, List.all_nil, id, Bool.and_eq_true, wi_iff, decide_eq_true_eq, and_true] at h3
 intro z hz
 simp only [narrows, List.mem_cons, List.not_mem_nil, or_false] at hz
 rcases hz with rfl | rfl | rfl | rfl | rfl | rfl | rfl | rfl | rfl | rfl <;> omega
theorem at0_mem {zs : List Int} {k : Nat} (hk : k < zs.length) : at0 zs k ∈ zs := by rw [← at0_lt hk]; exact List.getElem_mem hk
def encP (p : ParD) : List Int := flatN (wides p ++ narrows p)
abbrev wG (T cap : Nat) (rest : List Value) (bw : Nat) (o : Option (Nat × Nat)) (s : List Int × Int) (A L : Own) : Own := ⟨bw, T, ovs o s.1.length :: .int .i64 s.2 :: rest, cap⟩ :: (A ++ oent 5 1 o (s.1.map (.int .u8)) L)
theorem putG {T cap : Nat} {rest : List Value} (hT : T ≠ 4294967295) {bw : Nat} {o : Option (Nat × Nat)} {bs b : List Int} (A : Own) (v : Value) (hv : Ints h .u8 v b) (hb : b.length ≤ 1000000) (ho : okO o bs.length) (hl : bs.length ≤ 131072)
  (hk : ∀ o', okO o' (wPut (bs, 0) b).1.length → K (.tuple #[]) (⟨bw, T, ovs o' (wPut (bs, 0) b).1.length :: .int .i64 (wPut (bs, 0) b).2 :: rest, cap⟩ :: (A ++ oent 5 1 o' ((wPut (bs, 0) b).1.map (.int .u8)) L)) h) :
  Spec Tryz.prog 266 [.pointer (some ⟨bw, 0, none⟩), v] (⟨bw, T, ovs o bs.length :: .int .i64 0 :: rest, cap⟩ :: (A ++ oent 5 1 o (bs.map (.int .u8)) L)) h K := by
 obtain ⟨ov1, ov2, hov, _⟩ := ovs_open ho
 have ob := hv.open
 obtain ⟨a, c, rfl, _⟩ := ob
 refine x_enterA Tryz.func266 rfl (rs := []) rfl rfl mixed (by kernel_rfl) rfl rfl fun ap nd => ?_
 obtain ⟨ap1, _⟩ := ap
 rw [hov]
 simp -dsimp -implicitDefEqProofs (disch := first|with_reducible assumption|omega) [go_sem]
 refine xif_dec (fun c1 => ?_) (fun c1 => ?_)
 ·simp -dsimp -implicitDefEqProofs (disch := first|with_reducible assumption|omega) [go_sem]
  refine fail_any ?_
  simp -dsimp -implicitDefEqProofs (disch := first|with_reducible assumption|omega) [go_sem]
  have e : wPut (bs, 0) b = (bs, 3) := by simp [wPut]; omega
  rw [e] at hk
  rw [← hov]
  exact fin_here (hk o ho)
 ·simp -dsimp -implicitDefEqProofs (disch := first|with_reducible assumption|omega) [go_sem]
  rw [← hov]
  refine xappend (t := 38) (e := 5) (sz := 1) (bytes := 1) (z := [.int .u8 0]) (by kernel_rfl) tI_5 rfl rfl rfl rfl (by decide) (⟨bw, T, ovs o bs.length :: .int .i64 0 :: rest, cap⟩ :: A) L o bs.length (bs.map (.int .u8)) ho (by simp) (m := b.length) (Src.known hv.1) (by simp) (ints_one _ _) (by simp only [maxLen]; omega) (by omega) ?_
  intro o' j1 j2 j3
  simp -dsimp -implicitDefEqProofs (disch := first|with_reducible assumption|omega) [go_sem]
  have e : wPut (bs, 0) b = (bs ++ b, 0) := by simp [wPut]; omega
  rw [e] at hk
  have := hk o' (by simpa using j1)
  simp only [List.length_append, List.map_append] at this
  exact fin_here this
theorem wnumG {T cap : Nat} {rest : List Value} (hT : T ≠ 4294967295) {bw : Nat} {o : Option (Nat × Nat)} {s : List Int × Int} (A : Own) (n : Nat) (hn : n < 18446744073709551616) (ho : okO o s.1.length) (hl : s.1.length ≤ 131072)
  (hk : ∀ h' o', PH.le h h' → okO o' (wPut s (formN n)).1.length → K (.tuple #[]) (wG T cap rest bw o' (wPut s (formN n)) A L) h') :
  Spec Tryz.prog 263 [.pointer (some ⟨bw, 0, none⟩), .int .u64 n] (wG T cap rest bw o s A L) h K := by
 have h10 := formN_len 10 n (Nat.lt_of_lt_of_le hn (by decide)) (by decide)
 obtain ⟨bs, e⟩ := s
 simp only [wG] at ho hl ⊢
 refine x_enterA Tryz.func263 rfl (rs := []) rfl rfl mixed (by kernel_rfl) rfl rfl fun ap nd => ?_
 obtain ⟨ap1, _⟩ := ap
 simp -dsimp -implicitDefEqProofs (disch := first|with_reducible assumption|omega) [go_sem]
 refine good_any ?_
 by_cases c : e = 0
 ·subst c
  simp -dsimp -implicitDefEqProofs (disch := first|with_reducible assumption|omega) [go_sem]
  refine form_any n hn fun o1 k1 k2 => ?_
  simp -dsimp -implicitDefEqProofs (disch := first|with_reducible assumption|omega) [go_sem]
  refine call_pub k1 (by simp) (by omega) k2 fun h' le sl => ?_
  refine putG hT A _ (form_ints (formN_byte n) sl) (by omega) ho hl fun o' k3 => ?_
  simp -dsimp -implicitDefEqProofs (disch := first|with_reducible assumption|omega) [go_sem]
  exact fin_here (hk h' o' le k3)
 ·simp -dsimp -implicitDefEqProofs (disch := first|with_reducible assumption|omega) [go_sem]
  have e1 : wPut (bs, e) (formN n) = (bs, e) := by simp [wPut, c]
  rw [e1] at hk
  exact fin_here (hk h o (PH.le_refl h) ho)
theorem wintG {T cap : Nat} {rest : List Value} (hT : T ≠ 4294967295) {bw : Nat} {o : Option (Nat × Nat)} {s : List Int × Int} (A : Own) (n : Int) (hn : n ≤ 9223372036854775807) (ho : okO o s.1.length) (hl : s.1.length ≤ 131072)
  (hk : ∀ h' o', PH.le h h' → okO o' (wInt s n).1.length → K (.tuple #[]) (wG T cap rest bw o' (wInt s n) A L) h') :
  Spec Tryz.prog 262 [.pointer (some ⟨bw, 0, none⟩), .int .i64 n] (wG T cap rest bw o s A L) h K := by
 refine x_enterA Tryz.func262 rfl (rs := []) rfl rfl mixed (by kernel_rfl) rfl rfl fun ap nd => ?_
 obtain ⟨ap1, _⟩ := ap
 by_cases c : n < 0
 ·simp -dsimp -implicitDefEqProofs (disch := first|with_reducible assumption|omega) [go_sem]
  refine fail_any ?_
  simp -dsimp -implicitDefEqProofs (disch := first|with_reducible assumption|omega) [go_sem]
  have e : wInt s n = (s.1, if s.2 = 0 then 2 else s.2) := by simp [wInt, c]
  rw [e] at hk
  exact fin_here (hk h o (PH.le_refl h) ho)
 ·simp -dsimp -implicitDefEqProofs (disch := first|with_reducible assumption|omega) [go_sem]
  obtain ⟨m, rfl⟩ := Int.eq_ofNat_of_zero_le (show 0 ≤ n by omega)
  have e : wInt s (m : Int) = wPut s (formN m) := by rw [wInt, if_neg (by omega)]; rfl
  rw [e] at hk
  refine wnumG hT A m (by omega) ho hl fun h' o' le k => ?_
  simp -dsimp -implicitDefEqProofs (disch := first|with_reducible assumption|omega) [go_sem]
  exact fin_here (hk h' o' le k)
theorem wflagG {T cap : Nat} {rest : List Value} (hT : T ≠ 4294967295) {bw : Nat} {o : Option (Nat × Nat)} {s : List Int × Int} (A : Own) (on : Bool) (ho : okO o s.1.length) (hl : s.1.length ≤ 131072)
  (hk : ∀ h' o', PH.le h h' → okO o' (wPut s (formN on.toNat)).1.length → K (.tuple #[]) (wG T cap rest bw o' (wPut s (formN on.toNat)) A L) h') :
  Spec Tryz.prog 255 [.pointer (some ⟨bw, 0, none⟩), .bool on] (wG T cap rest bw o s A L) h K := by
 refine x_enterA Tryz.func255 rfl (rs := []) rfl rfl mixed (by kernel_rfl) rfl rfl fun ap nd => ?_
 cases on with
 | true =>
  simp -dsimp -implicitDefEqProofs (disch := first|with_reducible assumption|omega) [go_sem]
  refine wnumG hT A 1 (by omega) ho hl fun h' o' le k => ?_
  simp -dsimp -implicitDefEqProofs (disch := first|with_reducible assumption|omega) [go_sem]
  exact fin_here (hk h' o' le k)
 | false =>
  simp -dsimp -implicitDefEqProofs (disch := first|with_reducible assumption|omega) [go_sem]
  refine wnumG hT A 0 (by omega) ho hl fun h' o' le k => ?_
  simp -dsimp -implicitDefEqProofs (disch := first|with_reducible assumption|omega) [go_sem]
  exact fin_here (hk h' o' le k)
theorem wrawG {T cap : Nat} {rest : List Value} (hT : T ≠ 4294967295) {bw : Nat} {o : Option (Nat × Nat)} {s : List Int × Int} {b : List Int} (A : Own) (v : Value) (hv : Ints h .u8 v b) (hb : b.length ≤ 900000) (ho : okO o s.1.length) (hl : s.1.length ≤ 131072)
    (hk : ∀ h' o', PH.le h h' → okO o' (wPut s (rawN b)).1.length → K (.tuple #[]) (wG T cap rest bw o' (wPut s (rawN b)) A L) h') :
    Spec Tryz.prog 265 [.pointer (some ⟨bw, 0, none⟩), v] (wG T cap rest bw o s A L) h K := by
  have h10 := formN_len 10 b.length (by have : (128 : Nat) ^ 10 = 1180591620717411303424 := by decide
                                        omega) (by decide)
  have hbb : ∀ z ∈ b, 0 ≤ z ∧ z ≤ 255 := fun z hz => by
    have := hv.2 z hz
    rwa [show IntKind.u8.min = 0 by decide, show IntKind.u8.max = 255 by decide] at this
  have ob := hv.open
  obtain ⟨a, c, rfl, _⟩ := ob
  obtain ⟨bs, e⟩ := s
  simp only [wG] at ho hl ⊢
  refine x_enterA Tryz.func265 rfl (rs := []) rfl rfl mixed (by kernel_rfl) rfl rfl fun ap nd => ?_
  obtain ⟨ap1, _⟩ := ap
  simp -dsimp -implicitDefEqProofs (disch := first|with_reducible assumption|omega) [go_sem]
  refine good_any ?_
  by_cases c : e = 0
  · subst c
    simp -dsimp -implicitDefEqProofs (disch := first|with_reducible assumption|omega) [go_sem]
    refine form_any b.length (by omega) fun o1 k1 k2 => ?_
    simp -dsimp -implicitDefEqProofs (disch := first|with_reducible assumption|omega) [go_sem]
    refine xappend (t := 38) (e := 5) (sz := 1) (bytes := 1) (z := [.int .u8 0]) (by kernel_rfl) tI_5 rfl rfl rfl rfl (by decide) [] _ o1 (formN b.length).length ((formN b.length).map (.int .u8)) k1 (by simp) (m := b.length) (Src.known hv.1) (by simp) (ints_one _ _) (by simp only [maxLen]; omega) (by omega) ?_
    intro o2 j1 j2 j3
    simp only [List.nil_append] at j2 ⊢
    rw [← List.map_append, show (formN b.length).length + b.length = (rawN b).length by simp [rawN]] 
    rw [show (formN b.length).length + b.length = (rawN b).length by simp [rawN]] at j1
    change okO o2 (rawN b).length at j1
    simp -dsimp -implicitDefEqProofs (disch := first|with_reducible assumption|omega) [go_sem]
    refine call_pub (n := (rawN b).length) j1 (by simp [rawN]) (by simp [rawN]; omega) j2 fun h' le sl => ?_
    have sl' : Sl h' (ovs o2 (rawN b).length) (rawN b).length 1 ((rawN b).map (.int .u8)) := by
      rw [show (rawN b).map (Value.int .u8) = (formN b.length).map (.int .u8) ++ b.map (.int .u8) by simp [rawN]]
      exact sl
    refine putG hT A _ (form_ints (b := rawN b) (fun z hz => by
      rcases List.mem_append.1 hz with hz | hz
      · exact formN_byte _ z hz
      · exact hbb z hz) sl') (by simp [rawN]; omega) ho hl fun o' k3 => ?_
    simp -dsimp -implicitDefEqProofs (disch := first|with_reducible assumption|omega) [go_sem]
    exact fin_here (hk h' o' le k3)
  · simp -dsimp -implicitDefEqProofs (disch := first|with_reducible assumption|omega) [go_sem]
    have e1 : wPut (bs, e) (rawN b) = (bs, e) := by simp [wPut, c]
    rw [e1] at hk
    exact fin_here (hk h o (PH.le_refl h) ho)
theorem woutG {T cap : Nat} {rest : List Value} (hT : T ≠ 4294967295) {bw : Nat} {o : Option (Nat × Nat)} {s : List Int × Int} (A : Own) (hb : ∀ z ∈ s.1, 0 ≤ z ∧ z ≤ 255) (ho : okO o s.1.length) (hl : s.1.length ≤ 131072)
  (hk : ∀ h' r, PH.le h h' → (s.2 = 0 → Ints h' .u8 r s.1) → (s.2 ≠ 0 → r = .slice none 0 0) → K (.tuple #[r, .int .i64 s.2]) (wG T cap rest bw o s A L) h') :
  Spec Tryz.prog 33 [.pointer (some ⟨bw, 0, none⟩)] (wG T cap rest bw o s A L) h K := by
 obtain ⟨bs, e⟩ := s
 simp only [wG] at ho hl hb hk ⊢
 refine x_enterA Tryz.func33 rfl (rs := [_, _]) rfl rfl mixed (by kernel_rfl) rfl rfl fun ap nd => ?_
 obtain ⟨ap1, _⟩ := ap
 simp -dsimp -implicitDefEqProofs (disch := first|with_reducible assumption|omega) [go_sem]
 refine good_any ?_
 by_cases c : e = 0
 ·subst c
  obtain ⟨ov1, ov2, hov, _⟩ := ovs_open ho
  simp -dsimp -implicitDefEqProofs (disch := first|with_reducible assumption|omega) [go_sem]
  have hsrc : Src (⟨bw, T, ovs o bs.length :: .int .i64 0 :: rest, cap⟩ :: (A ++ oent 5 1 o (bs.map (.int .u8)) L)) h (ovs o bs.length) bs.length (bs.map (.int .u8)) := by
   cases o with
   | none =>
    have : bs.length = 0 := ho
    have : bs = [] := List.eq_nil_of_length_eq_zero this
    subst this
    exact Or.inl ⟨rfl, rfl, rfl⟩
   | some p =>
    obtain ⟨b, cap⟩ := p
    exact Src.own (b := b) (t := 5) (cap := cap * 1) (by simp [oent])
  refine xappend (t := 38) (e := 5) (sz := 1) (bytes := 1) (z := [.int .u8 0]) (by kernel_rfl) tI_5 rfl rfl rfl rfl (by decide) [] _ none 0 [] rfl rfl (m := bs.length) hsrc (by simp) (ints_one _ _) (by simp only [maxLen]; omega) (by omega) ?_
  intro o2 j1 j2 j3
  simp only [Nat.zero_add, List.nil_append] at j1 j2 ⊢
  simp -dsimp -implicitDefEqProofs (disch := first|with_reducible assumption|omega) [go_sem]
  refine fin_pub (n := bs.length) j1 (by simp) (by omega) j2 fun h' le sl => fin_here (hk h' _ le (fun _ => form_ints hb sl) fun h0 => absurd rfl h0)
 ·simp -dsimp -implicitDefEqProofs (disch := first|with_reducible assumption|omega) [go_sem]
  refine xdraw (by kernel_rfl) rfl ?_
  simp -dsimp -implicitDefEqProofs (disch := first|with_reducible assumption|omega) [go_sem]
  exact fin_here (hk h _ (PH.le_refl h) (fun h0 => absurd h0 c) fun _ => rfl)
theorem wintG_ok {T cap : Nat} {rest : List Value} (hT : T ≠ 4294967295) {bw : Nat} {o : Option (Nat × Nat)} {bs : List Int} (A : Own) (n : Int) (h0 : 0 ≤ n) (hn : n ≤ 9223372036854775807) (ho : okO o bs.length) (hl : bs.length ≤ 131000)
  (hk : ∀ h' o' B, PH.le h h' → B = bs ++ formN n.toNat → okO o' B.length → B.length ≤ bs.length + 10 → K (.tuple #[]) (wG T cap rest bw o' (B, 0) A L) h') :
  Spec Tryz.prog 262 [.pointer (some ⟨bw, 0, none⟩), .int .i64 n] (wG T cap rest bw o (bs, 0) A L) h K := by
 have l := form10 (n := n.toNat) (by omega)
 refine wintG hT (s := (bs, 0)) A n hn ho (by simp only; omega) fun h' o' le k => ?_
 rw [wInt_ok h0 (by omega)] at k ⊢
 exact hk h' o' _ le rfl k (by simp only [List.length_append]; omega)
theorem wnumG_ok {T cap : Nat} {rest : List Value} (hT : T ≠ 4294967295) {bw : Nat} {o : Option (Nat × Nat)} {bs : List Int} (A : Own) (n : Int) (h0 : 0 ≤ n) (hn : n ≤ 18446744073709551615) (ho : okO o bs.length) (hl : bs.length ≤ 131000)
  (hk : ∀ h' o' B, PH.le h h' → B = bs ++ formN n.toNat → okO o' B.length → B.length ≤ bs.length + 10 → K (.tuple #[]) (wG T cap rest bw o' (B, 0) A L) h') :
  Spec Tryz.prog 263 [.pointer (some ⟨bw, 0, none⟩), .int .u64 n] (wG T cap rest bw o (bs, 0) A L) h K := by
 have l := form10 (n := n.toNat) (by omega)
 obtain ⟨m, rfl⟩ := Int.eq_ofNat_of_zero_le h0
 simp only [Int.toNat_natCast] at l hk
 refine wnumG hT (s := (bs, 0)) A m (by omega) ho (by simp only; omega) fun h' o' le k => ?_
 rw [wPut_ok (by omega)] at k ⊢
 exact hk h' o' _ le rfl k (by simp only [List.length_append]; omega)
theorem pwriteG {T cap : Nat} {rest : List Value} (hT : T ≠ 4294967295) {bw : Nat} {o : Option (Nat × Nat)} {bs : List Int} (A : Own) (p : ParD) (ok : ParOk p) (hr : parR p = true) (ho : okO o bs.length) (hl : bs.length ≤ 100000)
    (hk : ∀ h' o', PH.le h h' → okO o' (bs ++ encP p).length → K (.int .i64 0) (wG T cap rest bw o' (bs ++ encP p, 0) A L) h') :
    Spec Tryz.prog 264 [.pointer (some ⟨bw, 0, none⟩), parV p] (wG T cap rest bw o (bs, 0) A L) h K := by
  have hnp := narrows_pos hr
  refine x_enterA Tryz.func264 rfl (rs := [_]) rfl rfl mixed (by kernel_rfl) rfl rfl fun ap nd => ?_
  obtain ⟨ap1, _⟩ := ap
  simp only [wG, List.cons_append, List.nil_append]
  simp -dsimp -implicitDefEqProofs (disch := first|with_reducible assumption|omega) [go_sem]
  refine xnew fun b3 n_b3 h_b3 => ?_
  try simp only [Apart] at n_b3
  simp -dsimp -implicitDefEqProofs (disch := first|with_reducible assumption|omega) [go_sem]
  refine Spec.apn (pcheck_any p ok fun h2 le2 ap nd => ?_)
  obtain ⟨q3, qw, _⟩ := ap
  simp only [Nd, Apart] at nd
  rw [if_pos hr]
  simp -dsimp -implicitDefEqProofs (disch := first|with_reducible assumption|omega) [go_sem]
  refine Spec.apn (wides_any b3 fun h3 v le3 sl3 ap nd' => ?_)
  obtain ⟨t3, tw, _⟩ := ap
  have op := sl3.openp
  obtain ⟨a1, c1, rfl, _, hcs⟩ := op
  simp only [Nat.zero_add] at hcs
  obtain ⟨B, hB⟩ : ∃ B : Nat → List Int, ∀ i, B i = bs ++ flatN ((wides p).take i) := ⟨_, fun _ => rfl⟩
  have e0 : bs = B 0 := by rw [hB]; simp [flatN]
  have hBl : ∀ i, (B i).length ≤ 100140 := fun i => by
    rw [hB, List.length_append]
    have := flatN_len ((wides p).take i) (fun z hz => by have := (ok.w z (List.mem_of_mem_take hz)).2; omega)
    have h2 : ((wides p).take i).length ≤ 14 := by
      rw [List.length_take]; exact Nat.le_trans (Nat.min_le_right _ _) (by simp [wides])
    omega
  obtain ⟨⟨n3, _⟩, _⟩ := nd
  rw [e0] at ho
  simp -dsimp -implicitDefEqProofs (disch := first|with_reducible assumption|omega) [go_sem]
  refine xloop (γ := Nat × Option (Nat × Nat) × PH) (0, o, h3)
    (fun s => s.1 ≤ 14 ∧ PH.le h3 s.2.2 ∧ okO s.2.1 (B s.1).length ∧ s.2.2 b3 = noC ∧ s.2.2 bw = noC)
    (fun s => [(17, .int .i64 s.1), (16, .int .i64 14), (15, .slice a1 14 c1), (3, .pointer (some ⟨b3, 0, none⟩)), (0, .pointer (some ⟨bw, 0, none⟩))])
    (fun s => wG T cap rest bw s.2.1 (B s.1, 0) (⟨b3, 25, parC p, 24⟩ :: A) L) (fun s => s.2.2) (fun s => 14 - s.1) ?_ ?_ ?_ ?_
  · exact ⟨by simp, PH.le_refl _, ho, t3, tw⟩
  · simp [Ent, List.lookup, xEnv]
  · simp only [← e0]
    exact Drop.perm _ (List.Perm.swap _ _ _)
  rintro ⟨i, o1, hh⟩ ⟨i1, i2, i3, i4, i5⟩
  simp only at i1 i2 i3 i4 i5 ⊢
  have hcs' : ∀ j, j < 14 → elemCell hh a1 j = some ((fun j => .pointer (some ⟨b3, j, none⟩)) j) := fun j hj => elemCell_up i2 (hcs j hj)
  by_cases d1 : i < 14
  · have hr1 := ok.w _ (at0_mem (zs := wides p) (k := i) (by simpa [wides] using d1))
    obtain ⟨m, hm⟩ := Int.eq_ofNat_of_zero_le hr1.1
    have es := flatN_snoc (wides p) i (by simpa [wides] using d1)
    rw [hm, Int.toNat_natCast] at es
    have eB : B i ++ formN m = B (i + 1) := by rw [hB, hB, es]; simp
    have lm := formN_len 10 m (by have : (128 : Nat) ^ 10 = 1180591620717411303424 := by decide
                                  omega) (by decide)
    have hb1 := hBl i
    simp only [wG, List.cons_append, List.nil_append]
    simp -dsimp -implicitDefEqProofs (disch := first|with_reducible assumption|omega) [go_sem, idx hcs', xNth_parw]
    rw [hm]
    refine Spec.apn (wnumG hT (o := o1) (s := (B i, 0)) (⟨b3, 25, parC p, 24⟩ :: A) m (by omega) i3 (by simp only; omega) fun h4 o4 le4 k4 ap nd => ?_)
    rw [wPut_ok (by omega), eB] at k4 ap nd ⊢
    obtain ⟨uw, u3, _⟩ := ap
    simp only [wG, List.cons_append, List.nil_append]
    simp -dsimp -implicitDefEqProofs (disch := first|with_reducible assumption|omega) [go_sem]
    exact ⟨i + 1, o4, h4, ⟨by omega, i2.trans le4, k4, u3, uw⟩, by omega, by simp [Ent, List.lookup], Drop.refl _ _⟩
  · have hi : i = 14 := by omega
    subst hi
    simp only [wG, List.cons_append, List.nil_append]
    simp -dsimp -implicitDefEqProofs (disch := first|with_reducible assumption|omega) [go_sem]
    refine Spec.apn (narrows_any b3 fun h4 v le4 sl4 ap nd' => ?_)
    obtain ⟨uw, u3, _⟩ := ap
    have op := sl4.openp
    obtain ⟨a2, c2, rfl, _, hcs2⟩ := op
    obtain ⟨C, hC⟩ : ∃ C : Nat → List Int, ∀ i, C i = bs ++ (flatN (wides p) ++ flatN ((narrows p).take i)) := ⟨_, fun _ => rfl⟩
    have e14 : B 14 = C 0 := by rw [hB, hC]; simp [flatN, wides]
    have hCl : ∀ i, (C i).length ≤ 100240 := fun i => by
      have h14 := hBl 14
      rw [hB, show (wides p).take 14 = wides p by simp [wides], List.length_append] at h14
      rw [hC, List.length_append, List.length_append]
      have := flatN_len ((narrows p).take i) (fun z hz => by have := (hnp z (List.mem_of_mem_take hz)).2; omega)
      have h2 : ((narrows p).take i).length ≤ 10 := by
        rw [List.length_take]; exact Nat.le_trans (Nat.min_le_right _ _) (by simp [narrows])
      omega
    simp -dsimp -implicitDefEqProofs (disch := first|with_reducible assumption|omega) [go_sem]
    rw [e14] at i3
    refine xloop (γ := Nat × Option (Nat × Nat) × PH) (0, o1, h4)
      (fun s => s.1 ≤ 10 ∧ PH.le h4 s.2.2 ∧ okO s.2.1 (C s.1).length ∧ s.2.2 b3 = noC ∧ s.2.2 bw = noC)
      (fun s => [(29, .int .i64 s.1), (28, .int .i64 10), (27, .slice a2 10 c2), (3, .pointer (some ⟨b3, 0, none⟩)), (0, .pointer (some ⟨bw, 0, none⟩))])
      (fun s => wG T cap rest bw s.2.1 (C s.1, 0) (⟨b3, 25, parC p, 24⟩ :: A) L) (fun s => s.2.2) (fun s => 10 - s.1) ?_ ?_ ?_ ?_
    · exact ⟨by simp, PH.le_refl _, i3, u3, uw⟩
    · simp [Ent, List.lookup, xEnv]
    · simp only [e14]
      exact Drop.refl _ _
    rintro ⟨j, o5, hh5⟩ ⟨j1, j2, j3, j4, j5⟩
    simp only at j1 j2 j3 j4 j5 ⊢
    have hcs2' : ∀ j, j < 10 → elemCell hh5 a2 j = some ((fun j => .pointer (some ⟨b3, 14 + j, none⟩)) j) := fun j hj => elemCell_up j2 (hcs2 j hj)
    by_cases d2 : j < 10
    · have hr1 := hnp _ (at0_mem (zs := narrows p) (k := j) (by simpa [narrows] using d2))
      have es := flatN_snoc (narrows p) j (by simpa [narrows] using d2)
      have eC : C j ++ formN (at0 (narrows p) j).toNat = C (j + 1) := by rw [hC, hC, es]; simp
      have lm := formN_len 10 (at0 (narrows p) j).toNat (by have : (128 : Nat) ^ 10 = 1180591620717411303424 := by decide
                                                            omega) (by decide)
      have hb1 := hCl j
      simp only [wG, List.cons_append, List.nil_append]
      simp -dsimp -implicitDefEqProofs (disch := first|with_reducible assumption|omega) [go_sem, idx hcs2', xNth_parn]
      refine Spec.apn (wintG hT (o := o5) (s := (C j, 0)) (⟨b3, 25, parC p, 24⟩ :: A) (at0 (narrows p) j) (by omega) j3 (by simp only; omega) fun h6 o6 le6 k6 ap nd => ?_)
      rw [wInt_ok hr1.1 (by omega), eC] at k6 ap nd ⊢
      obtain ⟨vw, v3, _⟩ := ap
      simp only [wG, List.cons_append, List.nil_append]
      simp -dsimp -implicitDefEqProofs (disch := first|with_reducible assumption|omega) [go_sem]
      exact ⟨j + 1, o6, h6, ⟨by omega, j2.trans le6, k6, v3, vw⟩, by omega, by simp [Ent, List.lookup], Drop.refl _ _⟩
    · have hj : j = 10 := by omega
      subst hj
      have eE : C 10 = bs ++ encP p := by rw [hC, show (narrows p).take 10 = narrows p by simp [narrows]]; simp [encP, flatN_append]
      rw [eE] at j3 ⊢
      simp only [wG, List.cons_append, List.nil_append]
      simp -dsimp -implicitDefEqProofs (disch := first|with_reducible assumption|omega) [go_sem]
      refine fin_perm (List.Perm.swap _ _ _) (fin_tail (fin_here ?_))
      have := hk hh5 o5 (le2.trans (le3.trans (i2.trans (le4.trans j2)))) j3
      simpa [wG] using this
end Go.X

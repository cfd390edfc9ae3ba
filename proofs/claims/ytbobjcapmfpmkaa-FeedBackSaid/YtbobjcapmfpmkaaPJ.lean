/- Contracts of deed.move, deed.Write, deed.Encode. Conditions: the value reads as a deed; the writer is the call's own. -/
import Derived.Test.YtbobjcapmfpmkaaPH
set_option linter.unusedVariables false
set_option linter.unusedSimpArgs false
namespace Go.X
open Go.RowKit Go.Proofs Go.Bl
variable {L : Own} {h : PH} {K : PK}

/-- a deed's bytes -/
def encD (d : DeedD) : List Int :=
  formN d.kind.toNat ++ ((if d.kind = 5 then [] else formN d.acct.toNat) ++
  ((if d.kind = 1 then formN d.to.toNat else if d.kind = 3 ∨ d.kind = 4 then formN d.mem.toNat else if d.kind = 5 then formN d.ep.toNat ++ rawN d.bits
    else if d.kind = 6 then formN d.what.toNat ++ (if d.what = 1 then encP d.par else if d.what = 2 then formN d.to.toNat else [])
    else if d.kind = 7 then formN d.mem.toNat ++ (formN d.mot.toNat ++ formN d.yes.toNat) else []) ++
  (if paidD d then formN d.amt.toNat else [])))
theorem form10 {n : Nat} (hn : n < 18446744073709551616) : (formN n).length ≤ 10 := formN_len 10 n (Nat.lt_of_lt_of_le hn (by decide)) (by decide)
theorem wint_ok {bw : Nat} {o : Option (Nat × Nat)} {bs : List Int} (A : Own) (n : Int) (h0 : 0 ≤ n) (hn : n ≤ 9223372036854775807) (ho : okO o bs.length) (hl : bs.length ≤ 131000)
    (hk : ∀ h' o' B, PH.le h h' → B = bs ++ formN n.toNat → okO o' B.length → B.length ≤ bs.length + 10 → K (.tuple #[]) (wO bw o' (B, 0) A L) h') :
    Spec Try.prog 92 [.pointer (some ⟨bw, 0, none⟩), .int .i64 n] (wO bw o (bs, 0) A L) h K := by
  have l := form10 (n := n.toNat) (by omega)
  refine wint_any (s := (bs, 0)) A n hn ho (by simp only; omega) fun h' o' le k => ?_
  rw [wInt_ok h0 (by omega)] at k ⊢
  exact hk h' o' _ le rfl k (by simp only [List.length_append]; omega)
theorem wnum_ok {bw : Nat} {o : Option (Nat × Nat)} {bs : List Int} (A : Own) (n : Int) (h0 : 0 ≤ n) (hn : n ≤ 18446744073709551615) (ho : okO o bs.length) (hl : bs.length ≤ 131000)
    (hk : ∀ h' o' B, PH.le h h' → B = bs ++ formN n.toNat → okO o' B.length → B.length ≤ bs.length + 10 → K (.tuple #[]) (wO bw o' (B, 0) A L) h') :
    Spec Try.prog 93 [.pointer (some ⟨bw, 0, none⟩), .int .u64 n] (wO bw o (bs, 0) A L) h K := by
  have l := form10 (n := n.toNat) (by omega)
  obtain ⟨m, rfl⟩ := Int.eq_ofNat_of_zero_le h0
  simp only [Int.toNat_natCast] at l hk
  refine wnum_any (s := (bs, 0)) A m (by omega) ho (by simp only; omega) fun h' o' le k => ?_
  rw [wPut_ok (by omega)] at k ⊢
  exact hk h' o' _ le rfl k (by simp only [List.length_append]; omega)
theorem wflag_ok {bw : Nat} {o : Option (Nat × Nat)} {bs : List Int} (A : Own) (on : Bool) (ho : okO o bs.length) (hl : bs.length ≤ 131000)
    (hk : ∀ h' o' B, PH.le h h' → B = bs ++ formN on.toNat → okO o' B.length → B.length ≤ bs.length + 10 → K (.tuple #[]) (wO bw o' (B, 0) A L) h') :
    Spec Try.prog 102 [.pointer (some ⟨bw, 0, none⟩), .bool on] (wO bw o (bs, 0) A L) h K := by
  have l := form10 (n := on.toNat) (by cases on <;> decide)
  refine wflag_any (s := (bs, 0)) A on ho (by simp only; omega) fun h' o' le k => ?_
  rw [wPut_ok (by omega)] at k ⊢
  exact hk h' o' _ le rfl k (by simp only [List.length_append]; omega)
theorem wraw_ok {bw : Nat} {o : Option (Nat × Nat)} {bs b : List Int} (A : Own) (v : Value) (hv : Ints h .u8 v b) (hb : b.length ≤ 32) (ho : okO o bs.length) (hl : bs.length ≤ 131000)
    (hk : ∀ h' o' B, PH.le h h' → B = bs ++ rawN b → okO o' B.length → B.length ≤ bs.length + 42 → K (.tuple #[]) (wO bw o' (B, 0) A L) h') :
    Spec Try.prog 94 [.pointer (some ⟨bw, 0, none⟩), v] (wO bw o (bs, 0) A L) h K := by
  have l := form10 (n := b.length) (by omega)
  have l2 : (rawN b).length ≤ 42 := by simp only [rawN, List.length_append]; omega
  refine wraw_any (s := (bs, 0)) A v hv (by omega) ho (by simp only; omega) fun h' o' le k => ?_
  rw [wPut_ok (by omega)] at k ⊢
  exact hk h' o' _ le rfl k (by simp only [List.length_append]; omega)
set_option maxRecDepth 20000 in
theorem wmove1_any {bw : Nat} {o : Option (Nat × Nat)} {bs : List Int} {d : DeedD} (A : Own) (bv : Value) (hd : IsDeed h bv d) (w : d.what = 1) (hr : parR d.par = true) (ho : okO o bs.length) (hl : bs.length ≤ 100000)
    (hk : ∀ h' o' B, PH.le h h' → B = bs ++ encP d.par → okO o' B.length → B.length ≤ bs.length + 240 → K (.tuple #[]) (wO bw o' (B, 0) A L) h') :
    Spec Try.prog 101 [.pointer (some ⟨bw, 0, none⟩), deedV d bv] (wO bw o (bs, 0) A L) h K := by
  have ob := hd.i.open
  obtain ⟨x1, y1, rfl, _⟩ := ob
  refine x_enterA Try.func101 rfl (rs := []) rfl rfl mixed (by kernel_rfl) rfl rfl fun ap nd => ?_
  obtain ⟨ap1, _⟩ := ap
  simp only [wO, rO, dO, List.cons_append, List.nil_append]
  simp -dsimp -implicitDefEqProofs (disch := first | with_reducible assumption | omega) [go_sem]
  refine xnew fun b3 n_b3 h_b3 => ?_
  try simp only [Apart] at n_b3
  simp -dsimp -implicitDefEqProofs (disch := first | with_reducible assumption | omega) [go_sem]
  refine call_p1 ?_
  refine pwrite_any (⟨b3, 84, deedC d (.slice x1 d.bits.length y1), 34⟩ :: A) d.par hd.ok.p hr ho hl fun h2 o2 le2 k2 => ?_
  simp only [wO, rO, dO, List.cons_append, List.nil_append]
  simp -dsimp -implicitDefEqProofs (disch := first | with_reducible assumption | omega) [go_sem]
  refine fin_perm (List.Perm.swap _ _ _) (fin_tail (fin_here ?_))
  have := encP_len hd.ok.p hr
  have := hk h2 o2 _ le2 rfl k2 (by simp only [List.length_append]; omega)
  simpa [wO] using this
set_option maxRecDepth 20000 in
theorem wmove2_any {bw : Nat} {o : Option (Nat × Nat)} {bs : List Int} {d : DeedD} (A : Own) (bv : Value) (hd : IsDeed h bv d) (w : d.what = 2) (ht : 0 ≤ d.to ∧ d.to ≤ 63) (ho : okO o bs.length) (hl : bs.length ≤ 100000)
    (hk : ∀ h' o' B, PH.le h h' → B = bs ++ formN d.to.toNat → okO o' B.length → B.length ≤ bs.length + 240 → K (.tuple #[]) (wO bw o' (B, 0) A L) h') :
    Spec Try.prog 101 [.pointer (some ⟨bw, 0, none⟩), deedV d bv] (wO bw o (bs, 0) A L) h K := by
  have ob := hd.i.open
  obtain ⟨x1, y1, rfl, _⟩ := ob
  refine x_enterA Try.func101 rfl (rs := []) rfl rfl mixed (by kernel_rfl) rfl rfl fun ap nd => ?_
  obtain ⟨ap1, _⟩ := ap
  simp only [wO, rO, dO, List.cons_append, List.nil_append]
  simp -dsimp -implicitDefEqProofs (disch := first | with_reducible assumption | omega) [go_sem]
  refine xnew fun b3 n_b3 h_b3 => ?_
  try simp only [Apart] at n_b3
  simp -dsimp -implicitDefEqProofs (disch := first | with_reducible assumption | omega) [go_sem]
  refine call_p1 ?_
  refine wint_ok (⟨b3, 84, deedC d (.slice x1 d.bits.length y1), 34⟩ :: A) d.to ht.1 (by omega) ho (by omega) fun h2 o2 B2 le2 e2 k2 l2 => ?_
  simp only [wO, rO, dO, List.cons_append, List.nil_append]
  simp -dsimp -implicitDefEqProofs (disch := first | with_reducible assumption | omega) [go_sem]
  exact fin_perm (List.Perm.swap _ _ _) (fin_tail (fin_here (hk h2 o2 B2 le2 e2 k2 (by omega))))
set_option maxRecDepth 20000 in
theorem wmove0_any {bw : Nat} {o : Option (Nat × Nat)} {bs : List Int} {d : DeedD} (A : Own) (bv : Value) (hd : IsDeed h bv d) (w1 : ¬ d.what = 1) (w2 : ¬ d.what = 2) (ho : okO o bs.length) (hl : bs.length ≤ 100000)
    (hk : ∀ h' o' B, PH.le h h' → B = bs ++ [] → okO o' B.length → B.length ≤ bs.length + 240 → K (.tuple #[]) (wO bw o' (B, 0) A L) h') :
    Spec Try.prog 101 [.pointer (some ⟨bw, 0, none⟩), deedV d bv] (wO bw o (bs, 0) A L) h K := by
  have ob := hd.i.open
  obtain ⟨x1, y1, rfl, _⟩ := ob
  refine x_enterA Try.func101 rfl (rs := []) rfl rfl mixed (by kernel_rfl) rfl rfl fun ap nd => ?_
  obtain ⟨ap1, _⟩ := ap
  simp only [wO, rO, dO, List.cons_append, List.nil_append]
  simp -dsimp -implicitDefEqProofs (disch := first | with_reducible assumption | omega) [go_sem]
  refine xnew fun b3 n_b3 h_b3 => ?_
  try simp only [Apart] at n_b3
  simp -dsimp -implicitDefEqProofs (disch := first | with_reducible assumption | omega) [go_sem]
  exact fin_tail (fin_here (hk h o bs (PH.le_refl h) (by simp) ho (by omega)))
theorem rightD_facts {d : DeedD} (hr : rightD d = true) : 1 ≤ d.kind ∧ d.kind ≤ 7 ∧ 0 ≤ d.acct ∧ d.acct ≤ 63 ∧ 0 ≤ d.to ∧ d.to ≤ 63 ∧ 0 ≤ d.mem ∧ d.mem ≤ 127 ∧ 0 ≤ d.mot ∧ d.mot ≤ 31 ∧ d.amt ≤ 4611686018427387904 ∧ 0 ≤ d.ep ∧ d.ep ≤ 1073741824 ∧ (d.bits.length : Int) ≤ 32 := by
  simp only [rightD, Bool.and_eq_true, wi_iff, decide_eq_true_eq] at hr
  obtain ⟨⟨⟨⟨a1, _⟩, ⟨⟨a2, a3⟩, a4⟩, a5⟩, ⟨⟨_, a6⟩, a7⟩, a8⟩, _⟩ := hr
  omega
theorem rightD_what {d : DeedD} (hr : rightD d = true) (k6 : d.kind = 6) : 1 ≤ d.what ∧ d.what ≤ 4 ∧ (d.what = 1 → parR d.par = true) := by
  simp only [rightD, Bool.and_eq_true, wi_iff, decide_eq_true_eq, Bool.or_eq_true] at hr
  rcases hr.2 with h | ⟨h1, h2⟩
  · exact absurd k6 h
  · exact ⟨h1.1, h1.2, fun w => h2.resolve_left (fun hn => hn w)⟩
set_option maxHeartbeats 8000000 in
set_option maxRecDepth 20000 in
theorem dwrite_any {bw : Nat} {o : Option (Nat × Nat)} {bs : List Int} {d : DeedD} (A : Own) (bv : Value) (hd : IsDeed h bv d) (hr : rightD d = true) (ho : okO o bs.length) (hl : bs.length ≤ 90000)
    (hk : ∀ h' o', PH.le h h' → okO o' (bs ++ encD d).length → K (.int .i64 0) (wO bw o' (bs ++ encD d, 0) A L) h') :
    Spec Try.prog 48 [.pointer (some ⟨bw, 0, none⟩), deedV d bv] (wO bw o (bs, 0) A L) h K := by
  have ob := hd.i.open
  obtain ⟨x1, y1, rfl, _⟩ := ob
  have hd0 := hd
  have ff := rightD_facts hr
  have hamt := hd.ok.a
  refine x_enterA Try.func48 rfl (rs := [_]) rfl rfl mixed (by kernel_rfl) rfl rfl fun ap nd => ?_
  obtain ⟨ap1, _⟩ := ap
  simp only [wO, rO, dO, List.cons_append, List.nil_append]
  simp -dsimp -implicitDefEqProofs (disch := first | with_reducible assumption | omega) [go_sem]
  refine xnew fun b3 n_b3 h_b3 => ?_
  try simp only [Apart] at n_b3
  simp -dsimp -implicitDefEqProofs (disch := first | with_reducible assumption | omega) [go_sem]
  refine Spec.apn (dright_any _ hd fun h1 le0 ap nd => ?_)
  rw [hr]
  obtain ⟨q3, qw, _⟩ := ap
  simp only [Nd, Apart] at nd
  clear hd
  have hd : IsDeed h1 (.slice x1 d.bits.length y1) d := hd0.up le0
  by_cases kd1 : d.kind = 1
  · simp -dsimp -implicitDefEqProofs (disch := first | with_reducible assumption | omega) [go_sem]
    refine call_p1 ?_
    refine Spec.apn (wint_ok (⟨b3, 84, deedC d (.slice x1 d.bits.length y1), 34⟩ :: A) (bs := bs) d.kind (by omega) (by omega) ho (by omega)  fun h2 o2 B2 le2 e2 k2 l2 ap nd => ?_)
    obtain ⟨qw, q3, _⟩ := ap
    simp only [Nd, Apart] at nd
    simp only [wO, rO, dO, List.cons_append, List.nil_append]
    simp -dsimp -implicitDefEqProofs (disch := first | with_reducible assumption | omega) [go_sem]
    refine Spec.apn (wint_ok (⟨b3, 84, deedC d (.slice x1 d.bits.length y1), 34⟩ :: A) (bs := B2) d.acct (by omega) (by omega) k2 (by omega)  fun h3 o3 B3 le3 e3 k3 l3 ap nd => ?_)
    obtain ⟨qw, q3, _⟩ := ap
    simp only [Nd, Apart] at nd
    simp only [wO, rO, dO, List.cons_append, List.nil_append]
    simp -dsimp -implicitDefEqProofs (disch := first | with_reducible assumption | omega) [go_sem]
    refine Spec.apn (wint_ok (⟨b3, 84, deedC d (.slice x1 d.bits.length y1), 34⟩ :: A) (bs := B3) d.to (by omega) (by omega) k3 (by omega)  fun h4 o4 B4 le4 e4 k4 l4 ap nd => ?_)
    obtain ⟨qw, q3, _⟩ := ap
    simp only [Nd, Apart] at nd
    simp only [wO, rO, dO, List.cons_append, List.nil_append]
    simp -dsimp -implicitDefEqProofs (disch := first | with_reducible assumption | omega) [go_sem]
    refine paid_any _ (hd.up (le2.trans (le3.trans le4))) ?_
    rw [show paidD d = true by simp [paidD, kd1, wi]]
    simp -dsimp -implicitDefEqProofs (disch := first | with_reducible assumption | omega) [go_sem]
    refine Spec.apn (wnum_ok (⟨b3, 84, deedC d (.slice x1 d.bits.length y1), 34⟩ :: A) (bs := B4) d.amt (by omega) (by omega) k4 (by omega)  fun h5 o5 B5 le5 e5 k5 l5 ap nd => ?_)
    obtain ⟨qw, q3, _⟩ := ap
    simp only [Nd, Apart] at nd
    simp only [wO, rO, dO, List.cons_append, List.nil_append]
    simp -dsimp -implicitDefEqProofs (disch := first | with_reducible assumption | omega) [go_sem]
    have eE : B5 = bs ++ encD d := by simp [encD, kd1, paidD, wi, e2, e3, e4, e5]
    rw [← eE] at hk
    exact fin_perm (List.Perm.swap _ _ _) (fin_tail (fin_here (hk h5 o5 (le0.trans (le2.trans (le3.trans (le4.trans le5)))) k5)))
  by_cases kd2 : d.kind = 2
  · simp -dsimp -implicitDefEqProofs (disch := first | with_reducible assumption | omega) [go_sem]
    refine call_p1 ?_
    refine Spec.apn (wint_ok (⟨b3, 84, deedC d (.slice x1 d.bits.length y1), 34⟩ :: A) (bs := bs) d.kind (by omega) (by omega) ho (by omega)  fun h2 o2 B2 le2 e2 k2 l2 ap nd => ?_)
    obtain ⟨qw, q3, _⟩ := ap
    simp only [Nd, Apart] at nd
    simp only [wO, rO, dO, List.cons_append, List.nil_append]
    simp -dsimp -implicitDefEqProofs (disch := first | with_reducible assumption | omega) [go_sem]
    refine Spec.apn (wint_ok (⟨b3, 84, deedC d (.slice x1 d.bits.length y1), 34⟩ :: A) (bs := B2) d.acct (by omega) (by omega) k2 (by omega)  fun h3 o3 B3 le3 e3 k3 l3 ap nd => ?_)
    obtain ⟨qw, q3, _⟩ := ap
    simp only [Nd, Apart] at nd
    simp only [wO, rO, dO, List.cons_append, List.nil_append]
    simp -dsimp -implicitDefEqProofs (disch := first | with_reducible assumption | omega) [go_sem]
    refine paid_any _ (hd.up (le2.trans le3)) ?_
    rw [show paidD d = true by simp [paidD, kd2, wi]]
    simp -dsimp -implicitDefEqProofs (disch := first | with_reducible assumption | omega) [go_sem]
    refine Spec.apn (wnum_ok (⟨b3, 84, deedC d (.slice x1 d.bits.length y1), 34⟩ :: A) (bs := B3) d.amt (by omega) (by omega) k3 (by omega)  fun h4 o4 B4 le4 e4 k4 l4 ap nd => ?_)
    obtain ⟨qw, q3, _⟩ := ap
    simp only [Nd, Apart] at nd
    simp only [wO, rO, dO, List.cons_append, List.nil_append]
    simp -dsimp -implicitDefEqProofs (disch := first | with_reducible assumption | omega) [go_sem]
    have eE : B4 = bs ++ encD d := by simp [encD, kd2, paidD, wi, e2, e3, e4]
    rw [← eE] at hk
    exact fin_perm (List.Perm.swap _ _ _) (fin_tail (fin_here (hk h4 o4 (le0.trans (le2.trans (le3.trans le4))) k4)))
  by_cases kd3 : d.kind = 3
  · simp -dsimp -implicitDefEqProofs (disch := first | with_reducible assumption | omega) [go_sem]
    refine call_p1 ?_
    refine Spec.apn (wint_ok (⟨b3, 84, deedC d (.slice x1 d.bits.length y1), 34⟩ :: A) (bs := bs) d.kind (by omega) (by omega) ho (by omega)  fun h2 o2 B2 le2 e2 k2 l2 ap nd => ?_)
    obtain ⟨qw, q3, _⟩ := ap
    simp only [Nd, Apart] at nd
    simp only [wO, rO, dO, List.cons_append, List.nil_append]
    simp -dsimp -implicitDefEqProofs (disch := first | with_reducible assumption | omega) [go_sem]
    refine Spec.apn (wint_ok (⟨b3, 84, deedC d (.slice x1 d.bits.length y1), 34⟩ :: A) (bs := B2) d.acct (by omega) (by omega) k2 (by omega)  fun h3 o3 B3 le3 e3 k3 l3 ap nd => ?_)
    obtain ⟨qw, q3, _⟩ := ap
    simp only [Nd, Apart] at nd
    simp only [wO, rO, dO, List.cons_append, List.nil_append]
    simp -dsimp -implicitDefEqProofs (disch := first | with_reducible assumption | omega) [go_sem]
    refine Spec.apn (wint_ok (⟨b3, 84, deedC d (.slice x1 d.bits.length y1), 34⟩ :: A) (bs := B3) d.mem (by omega) (by omega) k3 (by omega)  fun h4 o4 B4 le4 e4 k4 l4 ap nd => ?_)
    obtain ⟨qw, q3, _⟩ := ap
    simp only [Nd, Apart] at nd
    simp only [wO, rO, dO, List.cons_append, List.nil_append]
    simp -dsimp -implicitDefEqProofs (disch := first | with_reducible assumption | omega) [go_sem]
    refine paid_any _ (hd.up (le2.trans (le3.trans le4))) ?_
    rw [show paidD d = true by simp [paidD, kd3, wi]]
    simp -dsimp -implicitDefEqProofs (disch := first | with_reducible assumption | omega) [go_sem]
    refine Spec.apn (wnum_ok (⟨b3, 84, deedC d (.slice x1 d.bits.length y1), 34⟩ :: A) (bs := B4) d.amt (by omega) (by omega) k4 (by omega)  fun h5 o5 B5 le5 e5 k5 l5 ap nd => ?_)
    obtain ⟨qw, q3, _⟩ := ap
    simp only [Nd, Apart] at nd
    simp only [wO, rO, dO, List.cons_append, List.nil_append]
    simp -dsimp -implicitDefEqProofs (disch := first | with_reducible assumption | omega) [go_sem]
    have eE : B5 = bs ++ encD d := by simp [encD, kd3, paidD, wi, e2, e3, e4, e5]
    rw [← eE] at hk
    exact fin_perm (List.Perm.swap _ _ _) (fin_tail (fin_here (hk h5 o5 (le0.trans (le2.trans (le3.trans (le4.trans le5)))) k5)))
  by_cases kd4 : d.kind = 4
  · simp -dsimp -implicitDefEqProofs (disch := first | with_reducible assumption | omega) [go_sem]
    refine call_p1 ?_
    refine Spec.apn (wint_ok (⟨b3, 84, deedC d (.slice x1 d.bits.length y1), 34⟩ :: A) (bs := bs) d.kind (by omega) (by omega) ho (by omega)  fun h2 o2 B2 le2 e2 k2 l2 ap nd => ?_)
    obtain ⟨qw, q3, _⟩ := ap
    simp only [Nd, Apart] at nd
    simp only [wO, rO, dO, List.cons_append, List.nil_append]
    simp -dsimp -implicitDefEqProofs (disch := first | with_reducible assumption | omega) [go_sem]
    refine Spec.apn (wint_ok (⟨b3, 84, deedC d (.slice x1 d.bits.length y1), 34⟩ :: A) (bs := B2) d.acct (by omega) (by omega) k2 (by omega)  fun h3 o3 B3 le3 e3 k3 l3 ap nd => ?_)
    obtain ⟨qw, q3, _⟩ := ap
    simp only [Nd, Apart] at nd
    simp only [wO, rO, dO, List.cons_append, List.nil_append]
    simp -dsimp -implicitDefEqProofs (disch := first | with_reducible assumption | omega) [go_sem]
    refine Spec.apn (wint_ok (⟨b3, 84, deedC d (.slice x1 d.bits.length y1), 34⟩ :: A) (bs := B3) d.mem (by omega) (by omega) k3 (by omega)  fun h4 o4 B4 le4 e4 k4 l4 ap nd => ?_)
    obtain ⟨qw, q3, _⟩ := ap
    simp only [Nd, Apart] at nd
    simp only [wO, rO, dO, List.cons_append, List.nil_append]
    simp -dsimp -implicitDefEqProofs (disch := first | with_reducible assumption | omega) [go_sem]
    refine paid_any _ (hd.up (le2.trans (le3.trans le4))) ?_
    rw [show paidD d = false by simp [paidD, kd4, wi]]
    simp -dsimp -implicitDefEqProofs (disch := first | with_reducible assumption | omega) [go_sem]
    have eE : B4 = bs ++ encD d := by simp [encD, kd4, paidD, wi, e2, e3, e4]
    rw [← eE] at hk
    exact fin_perm (List.Perm.swap _ _ _) (fin_tail (fin_here (hk h4 o4 (le0.trans (le2.trans (le3.trans le4))) k4)))
  by_cases kd5 : d.kind = 5
  · simp -dsimp -implicitDefEqProofs (disch := first | with_reducible assumption | omega) [go_sem]
    refine call_p1 ?_
    refine Spec.apn (wint_ok (⟨b3, 84, deedC d (.slice x1 d.bits.length y1), 34⟩ :: A) (bs := bs) d.kind (by omega) (by omega) ho (by omega)  fun h2 o2 B2 le2 e2 k2 l2 ap nd => ?_)
    obtain ⟨qw, q3, _⟩ := ap
    simp only [Nd, Apart] at nd
    simp only [wO, rO, dO, List.cons_append, List.nil_append]
    simp -dsimp -implicitDefEqProofs (disch := first | with_reducible assumption | omega) [go_sem]
    refine Spec.apn (wint_ok (⟨b3, 84, deedC d (.slice x1 d.bits.length y1), 34⟩ :: A) (bs := B2) d.ep (by omega) (by omega) k2 (by omega)  fun h3 o3 B3 le3 e3 k3 l3 ap nd => ?_)
    obtain ⟨qw, q3, _⟩ := ap
    simp only [Nd, Apart] at nd
    simp only [wO, rO, dO, List.cons_append, List.nil_append]
    simp -dsimp -implicitDefEqProofs (disch := first | with_reducible assumption | omega) [go_sem]
    refine Spec.apn (wraw_ok (⟨b3, 84, deedC d (.slice x1 d.bits.length y1), 34⟩ :: A) (bs := B3) _ (hd.i.up (le2.trans le3)) (by omega) k3 (by omega)  fun h4 o4 B4 le4 e4 k4 l4 ap nd => ?_)
    obtain ⟨qw, q3, _⟩ := ap
    simp only [Nd, Apart] at nd
    simp only [wO, rO, dO, List.cons_append, List.nil_append]
    simp -dsimp -implicitDefEqProofs (disch := first | with_reducible assumption | omega) [go_sem]
    refine paid_any _ (hd.up (le2.trans (le3.trans le4))) ?_
    rw [show paidD d = false by simp [paidD, kd5, wi]]
    simp -dsimp -implicitDefEqProofs (disch := first | with_reducible assumption | omega) [go_sem]
    have eE : B4 = bs ++ encD d := by simp [encD, kd5, paidD, wi, e2, e3, e4]
    rw [← eE] at hk
    exact fin_perm (List.Perm.swap _ _ _) (fin_tail (fin_here (hk h4 o4 (le0.trans (le2.trans (le3.trans le4))) k4)))
  by_cases kd7 : d.kind = 7
  · simp -dsimp -implicitDefEqProofs (disch := first | with_reducible assumption | omega) [go_sem]
    refine call_p1 ?_
    refine Spec.apn (wint_ok (⟨b3, 84, deedC d (.slice x1 d.bits.length y1), 34⟩ :: A) (bs := bs) d.kind (by omega) (by omega) ho (by omega)  fun h2 o2 B2 le2 e2 k2 l2 ap nd => ?_)
    obtain ⟨qw, q3, _⟩ := ap
    simp only [Nd, Apart] at nd
    simp only [wO, rO, dO, List.cons_append, List.nil_append]
    simp -dsimp -implicitDefEqProofs (disch := first | with_reducible assumption | omega) [go_sem]
    refine Spec.apn (wint_ok (⟨b3, 84, deedC d (.slice x1 d.bits.length y1), 34⟩ :: A) (bs := B2) d.acct (by omega) (by omega) k2 (by omega)  fun h3 o3 B3 le3 e3 k3 l3 ap nd => ?_)
    obtain ⟨qw, q3, _⟩ := ap
    simp only [Nd, Apart] at nd
    simp only [wO, rO, dO, List.cons_append, List.nil_append]
    simp -dsimp -implicitDefEqProofs (disch := first | with_reducible assumption | omega) [go_sem]
    refine Spec.apn (wint_ok (⟨b3, 84, deedC d (.slice x1 d.bits.length y1), 34⟩ :: A) (bs := B3) d.mem (by omega) (by omega) k3 (by omega)  fun h4 o4 B4 le4 e4 k4 l4 ap nd => ?_)
    obtain ⟨qw, q3, _⟩ := ap
    simp only [Nd, Apart] at nd
    simp only [wO, rO, dO, List.cons_append, List.nil_append]
    simp -dsimp -implicitDefEqProofs (disch := first | with_reducible assumption | omega) [go_sem]
    refine Spec.apn (wint_ok (⟨b3, 84, deedC d (.slice x1 d.bits.length y1), 34⟩ :: A) (bs := B4) d.mot (by omega) (by omega) k4 (by omega)  fun h5 o5 B5 le5 e5 k5 l5 ap nd => ?_)
    obtain ⟨qw, q3, _⟩ := ap
    simp only [Nd, Apart] at nd
    simp only [wO, rO, dO, List.cons_append, List.nil_append]
    simp -dsimp -implicitDefEqProofs (disch := first | with_reducible assumption | omega) [go_sem]
    refine Spec.apn (wflag_ok (⟨b3, 84, deedC d (.slice x1 d.bits.length y1), 34⟩ :: A) (bs := B5) d.yes k5 (by omega)  fun h6 o6 B6 le6 e6 k6 l6 ap nd => ?_)
    obtain ⟨qw, q3, _⟩ := ap
    simp only [Nd, Apart] at nd
    simp only [wO, rO, dO, List.cons_append, List.nil_append]
    simp -dsimp -implicitDefEqProofs (disch := first | with_reducible assumption | omega) [go_sem]
    refine paid_any _ (hd.up (le2.trans (le3.trans (le4.trans (le5.trans le6))))) ?_
    rw [show paidD d = false by simp [paidD, kd7, wi]]
    simp -dsimp -implicitDefEqProofs (disch := first | with_reducible assumption | omega) [go_sem]
    have eE : B6 = bs ++ encD d := by simp [encD, kd7, paidD, wi, e2, e3, e4, e5, e6]
    rw [← eE] at hk
    exact fin_perm (List.Perm.swap _ _ _) (fin_tail (fin_here (hk h6 o6 (le0.trans (le2.trans (le3.trans (le4.trans (le5.trans le6))))) k6)))
  have kd6 : d.kind = 6 := by omega
  have hw := rightD_what hr kd6
  by_cases w1 : d.what = 1
  · have hpar := hw.2.2 w1
    simp -dsimp -implicitDefEqProofs (disch := first | with_reducible assumption | omega) [go_sem]
    refine call_p1 ?_
    refine Spec.apn (wint_ok (⟨b3, 84, deedC d (.slice x1 d.bits.length y1), 34⟩ :: A) (bs := bs) d.kind (by omega) (by omega) ho (by omega)  fun h2 o2 B2 le2 e2 k2 l2 ap nd => ?_)
    obtain ⟨qw, q3, _⟩ := ap
    simp only [Nd, Apart] at nd
    simp only [wO, rO, dO, List.cons_append, List.nil_append]
    simp -dsimp -implicitDefEqProofs (disch := first | with_reducible assumption | omega) [go_sem]
    refine Spec.apn (wint_ok (⟨b3, 84, deedC d (.slice x1 d.bits.length y1), 34⟩ :: A) (bs := B2) d.acct (by omega) (by omega) k2 (by omega)  fun h3 o3 B3 le3 e3 k3 l3 ap nd => ?_)
    obtain ⟨qw, q3, _⟩ := ap
    simp only [Nd, Apart] at nd
    simp only [wO, rO, dO, List.cons_append, List.nil_append]
    simp -dsimp -implicitDefEqProofs (disch := first | with_reducible assumption | omega) [go_sem]
    refine Spec.apn (wint_ok (⟨b3, 84, deedC d (.slice x1 d.bits.length y1), 34⟩ :: A) (bs := B3) d.what (by omega) (by omega) k3 (by omega)  fun h4 o4 B4 le4 e4 k4 l4 ap nd => ?_)
    obtain ⟨qw, q3, _⟩ := ap
    simp only [Nd, Apart] at nd
    simp only [wO, rO, dO, List.cons_append, List.nil_append]
    simp -dsimp -implicitDefEqProofs (disch := first | with_reducible assumption | omega) [go_sem]
    refine Spec.apn (wmove1_any (⟨b3, 84, deedC d (.slice x1 d.bits.length y1), 34⟩ :: A) (bs := B4) _ (hd.up (le2.trans (le3.trans le4))) w1 hpar k4 (by omega)  fun h5 o5 B5 le5 e5 k5 l5 ap nd => ?_)
    obtain ⟨qw, q3, _⟩ := ap
    simp only [Nd, Apart] at nd
    simp only [wO, rO, dO, List.cons_append, List.nil_append]
    simp -dsimp -implicitDefEqProofs (disch := first | with_reducible assumption | omega) [go_sem]
    refine paid_any _ (hd.up (le2.trans (le3.trans (le4.trans le5)))) ?_
    rw [show paidD d = false by simp [paidD, kd6, w1, wi]]
    simp -dsimp -implicitDefEqProofs (disch := first | with_reducible assumption | omega) [go_sem]
    have eE : B5 = bs ++ encD d := by simp [encD, kd6, w1, paidD, wi, e2, e3, e4, e5]
    rw [← eE] at hk
    exact fin_perm (List.Perm.swap _ _ _) (fin_tail (fin_here (hk h5 o5 (le0.trans (le2.trans (le3.trans (le4.trans le5)))) k5)))
  by_cases w2 : d.what = 2
  · simp -dsimp -implicitDefEqProofs (disch := first | with_reducible assumption | omega) [go_sem]
    refine call_p1 ?_
    refine Spec.apn (wint_ok (⟨b3, 84, deedC d (.slice x1 d.bits.length y1), 34⟩ :: A) (bs := bs) d.kind (by omega) (by omega) ho (by omega)  fun h2 o2 B2 le2 e2 k2 l2 ap nd => ?_)
    obtain ⟨qw, q3, _⟩ := ap
    simp only [Nd, Apart] at nd
    simp only [wO, rO, dO, List.cons_append, List.nil_append]
    simp -dsimp -implicitDefEqProofs (disch := first | with_reducible assumption | omega) [go_sem]
    refine Spec.apn (wint_ok (⟨b3, 84, deedC d (.slice x1 d.bits.length y1), 34⟩ :: A) (bs := B2) d.acct (by omega) (by omega) k2 (by omega)  fun h3 o3 B3 le3 e3 k3 l3 ap nd => ?_)
    obtain ⟨qw, q3, _⟩ := ap
    simp only [Nd, Apart] at nd
    simp only [wO, rO, dO, List.cons_append, List.nil_append]
    simp -dsimp -implicitDefEqProofs (disch := first | with_reducible assumption | omega) [go_sem]
    refine Spec.apn (wint_ok (⟨b3, 84, deedC d (.slice x1 d.bits.length y1), 34⟩ :: A) (bs := B3) d.what (by omega) (by omega) k3 (by omega)  fun h4 o4 B4 le4 e4 k4 l4 ap nd => ?_)
    obtain ⟨qw, q3, _⟩ := ap
    simp only [Nd, Apart] at nd
    simp only [wO, rO, dO, List.cons_append, List.nil_append]
    simp -dsimp -implicitDefEqProofs (disch := first | with_reducible assumption | omega) [go_sem]
    refine Spec.apn (wmove2_any (⟨b3, 84, deedC d (.slice x1 d.bits.length y1), 34⟩ :: A) (bs := B4) _ (hd.up (le2.trans (le3.trans le4))) w2 (by omega) k4 (by omega)  fun h5 o5 B5 le5 e5 k5 l5 ap nd => ?_)
    obtain ⟨qw, q3, _⟩ := ap
    simp only [Nd, Apart] at nd
    simp only [wO, rO, dO, List.cons_append, List.nil_append]
    simp -dsimp -implicitDefEqProofs (disch := first | with_reducible assumption | omega) [go_sem]
    refine paid_any _ (hd.up (le2.trans (le3.trans (le4.trans le5)))) ?_
    rw [show paidD d = true by simp [paidD, kd6, w2, wi]]
    simp -dsimp -implicitDefEqProofs (disch := first | with_reducible assumption | omega) [go_sem]
    refine Spec.apn (wnum_ok (⟨b3, 84, deedC d (.slice x1 d.bits.length y1), 34⟩ :: A) (bs := B5) d.amt (by omega) (by omega) k5 (by omega)  fun h6 o6 B6 le6 e6 k6 l6 ap nd => ?_)
    obtain ⟨qw, q3, _⟩ := ap
    simp only [Nd, Apart] at nd
    simp only [wO, rO, dO, List.cons_append, List.nil_append]
    simp -dsimp -implicitDefEqProofs (disch := first | with_reducible assumption | omega) [go_sem]
    have eE : B6 = bs ++ encD d := by simp [encD, kd6, w2, paidD, wi, e2, e3, e4, e5, e6]
    rw [← eE] at hk
    exact fin_perm (List.Perm.swap _ _ _) (fin_tail (fin_here (hk h6 o6 (le0.trans (le2.trans (le3.trans (le4.trans (le5.trans le6))))) k6)))
  simp -dsimp -implicitDefEqProofs (disch := first | with_reducible assumption | omega) [go_sem]
  refine call_p1 ?_
  refine Spec.apn (wint_ok (⟨b3, 84, deedC d (.slice x1 d.bits.length y1), 34⟩ :: A) (bs := bs) d.kind (by omega) (by omega) ho (by omega)  fun h2 o2 B2 le2 e2 k2 l2 ap nd => ?_)
  obtain ⟨qw, q3, _⟩ := ap
  simp only [Nd, Apart] at nd
  simp only [wO, rO, dO, List.cons_append, List.nil_append]
  simp -dsimp -implicitDefEqProofs (disch := first | with_reducible assumption | omega) [go_sem]
  refine Spec.apn (wint_ok (⟨b3, 84, deedC d (.slice x1 d.bits.length y1), 34⟩ :: A) (bs := B2) d.acct (by omega) (by omega) k2 (by omega)  fun h3 o3 B3 le3 e3 k3 l3 ap nd => ?_)
  obtain ⟨qw, q3, _⟩ := ap
  simp only [Nd, Apart] at nd
  simp only [wO, rO, dO, List.cons_append, List.nil_append]
  simp -dsimp -implicitDefEqProofs (disch := first | with_reducible assumption | omega) [go_sem]
  refine Spec.apn (wint_ok (⟨b3, 84, deedC d (.slice x1 d.bits.length y1), 34⟩ :: A) (bs := B3) d.what (by omega) (by omega) k3 (by omega)  fun h4 o4 B4 le4 e4 k4 l4 ap nd => ?_)
  obtain ⟨qw, q3, _⟩ := ap
  simp only [Nd, Apart] at nd
  simp only [wO, rO, dO, List.cons_append, List.nil_append]
  simp -dsimp -implicitDefEqProofs (disch := first | with_reducible assumption | omega) [go_sem]
  refine Spec.apn (wmove0_any (⟨b3, 84, deedC d (.slice x1 d.bits.length y1), 34⟩ :: A) (bs := B4) _ (hd.up (le2.trans (le3.trans le4))) w1 w2 k4 (by omega)  fun h5 o5 B5 le5 e5 k5 l5 ap nd => ?_)
  obtain ⟨qw, q3, _⟩ := ap
  simp only [Nd, Apart] at nd
  simp only [wO, rO, dO, List.cons_append, List.nil_append]
  simp -dsimp -implicitDefEqProofs (disch := first | with_reducible assumption | omega) [go_sem]
  refine paid_any _ (hd.up (le2.trans (le3.trans (le4.trans le5)))) ?_
  rw [show paidD d = false by simp [paidD, kd6, w1, w2, wi]]
  simp -dsimp -implicitDefEqProofs (disch := first | with_reducible assumption | omega) [go_sem]
  have eE : B5 = bs ++ encD d := by simp [encD, kd6, w1, w2, paidD, wi, e2, e3, e4, e5]
  rw [← eE] at hk
  exact fin_perm (List.Perm.swap _ _ _) (fin_tail (fin_here (hk h5 o5 (le0.trans (le2.trans (le3.trans (le4.trans le5)))) k5)))
end Go.X

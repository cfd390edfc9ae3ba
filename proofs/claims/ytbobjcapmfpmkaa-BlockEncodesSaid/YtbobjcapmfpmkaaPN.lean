/- Contracts of deed.Encode, deed.Decode, bullionlaw08.Plain, bullionref08.Same (of like deeds), bullionlaw08.awake. Conditions: the values read as deeds and as bytes. -/
import Derived.Test.YtbobjcapmfpmkaaPM
import Derived.Test.YtbobjcapmfpmkaaWA
set_option linter.unusedVariables false
set_option linter.unusedSimpArgs false
namespace Go.X
open Go.RowKit Go.Proofs Go.Bl
variable {L : Own} {h : PH} {K : PK}

theorem encD_byte {d : DeedD} (hb : ∀ z ∈ d.bits, 0 ≤ z ∧ z ≤ 255) : ∀ z ∈ encD d, 0 ≤ z ∧ z ≤ 255 := by
  have f : ∀ n, ∀ z ∈ formN n, 0 ≤ z ∧ z ≤ 255 := formN_byte
  have g : ∀ a b : List Int, (∀ z ∈ a, 0 ≤ z ∧ z ≤ 255) → (∀ z ∈ b, 0 ≤ z ∧ z ≤ 255) → ∀ z ∈ a ++ b, 0 ≤ z ∧ z ≤ 255 := fun a b ha hb z hz => by
    rcases List.mem_append.1 hz with h | h
    · exact ha z h
    · exact hb z h
  have n0 : ∀ z ∈ ([] : List Int), 0 ≤ z ∧ z ≤ 255 := fun z hz => by simp at hz
  unfold encD
  refine g _ _ (f _) (g _ _ ?_ (g _ _ ?_ ?_))
  · split
    · exact n0
    · exact f _
  · repeat' split
    · exact f _
    · exact f _
    · exact g _ _ (f _) (g _ _ (f _) hb)
    · exact g _ _ (f _) (flatN_byte _)
    · exact g _ _ (f _) (f _)
    · exact g _ _ (f _) n0
    · exact g _ _ (f _) (g _ _ (f _) (f _))
    · exact n0
  · split
    · exact f _
    · exact n0
theorem encD_len {d : DeedD} (ok : DeedOk d) (hr : rightD d = true) : (encD d).length ≤ 400 ∧ 0 < (encD d).length := by
  have ff := rightD_facts hr
  have hamt := ok.a
  have l1 := form10 (n := d.kind.toNat) (by omega)
  have l2 := form10 (n := d.acct.toNat) (by omega)
  have l3 := form10 (n := d.to.toNat) (by omega)
  have l4 := form10 (n := d.mem.toNat) (by omega)
  have l5 := form10 (n := d.ep.toNat) (by omega)
  have l6 := form10 (n := d.mot.toNat) (by omega)
  have l7 := form10 (n := d.amt.toNat) (by omega)
  have l8 := form10 (n := d.yes.toNat) (by cases d.yes <;> decide)
  have l9 := form10 (n := d.bits.length) (by omega)
  have lp := formN_pos d.kind.toNat
  have nil : ([] : List Int).length = 0 := rfl
  have lw : d.kind = 6 → (formN d.what.toNat).length ≤ 10 ∧ (d.what = 1 → (encP d.par).length ≤ 240) := fun k6 => by
    have hw := rightD_what hr k6
    exact ⟨form10 (n := d.what.toNat) (by omega), fun w => encP_len ok.p (hw.2.2 w)⟩
  constructor
  · unfold encD
    simp only [List.length_append]
    have a1 : (if d.kind = 5 then ([] : List Int) else formN d.acct.toNat).length ≤ 10 := by split <;> omega
    have a3 : (if paidD d = true then formN d.amt.toNat else ([] : List Int)).length ≤ 10 := by split <;> omega
    have a2 : (if d.kind = 1 then formN d.to.toNat else if d.kind = 3 ∨ d.kind = 4 then formN d.mem.toNat else if d.kind = 5 then formN d.ep.toNat ++ rawN d.bits
      else if d.kind = 6 then formN d.what.toNat ++ (if d.what = 1 then encP d.par else if d.what = 2 then formN d.to.toNat else [])
      else if d.kind = 7 then formN d.mem.toNat ++ (formN d.mot.toNat ++ formN d.yes.toNat) else []).length ≤ 260 := by
      split
      · omega
      · split
        · omega
        · split
          · simp only [List.length_append, rawN]; omega
          · split
            · rename_i k6
              have := lw k6
              rw [List.length_append]
              split
              · rename_i w; have := this.2 w; omega
              · split <;> omega
            · split
              · simp only [List.length_append]; omega
              · omega
    omega
  · unfold encD
    rw [List.length_append]
    omega
set_option maxHeartbeats 1600000 in
set_option maxRecDepth 20000 in
theorem denc_any {d : DeedD} (bv : Value) (hd : IsDeed h bv d) (hk : ∀ h' r, PH.le h h' → (if rightD d = true then Ints h' .u8 r (encD d) else r = .slice none 0 0) → K (.tuple #[r, .int .i64 (if rightD d = true then 0 else 80)]) L h') :
    Spec Try.prog 47 [deedV d bv] L h K := by
  have ob := hd.i.open
  obtain ⟨x1, y1, rfl, _⟩ := ob
  have hbb := byte_of hd.i
  refine x_enter Try.func47 rfl (rs := [_, _]) rfl rfl mixed (by kernel_rfl) rfl rfl ?_
  simp -dsimp -implicitDefEqProofs (disch := first | with_reducible assumption | omega) [go_sem]
  refine xnew fun b1 n_b1 h_b1 => ?_
  try simp only [Apart] at n_b1
  simp -dsimp -implicitDefEqProofs (disch := first | with_reducible assumption | omega) [go_sem]
  refine xnew fun bw n_bw h_bw => ?_
  try simp only [Apart] at n_bw
  simp -dsimp -implicitDefEqProofs (disch := first | with_reducible assumption | omega) [go_sem]
  cases hr : rightD d with
  | true =>
    rw [hr] at hk
    simp only [if_true] at hk
    refine Spec.apn (dwrite_any (o := none) (bs := []) [⟨b1, 84, deedC d (.slice x1 d.bits.length y1), 34⟩] _ hd hr rfl (by simp) fun h2 o2 le2 k2 ap nd => ?_)
    simp only [List.nil_append] at k2 ⊢
    have hl := encD_len hd.ok hr
    simp only [wO, rO, dO, List.cons_append, List.nil_append]
    simp -dsimp -implicitDefEqProofs (disch := first | with_reducible assumption | omega) [go_sem]
    refine wout_any (o := o2) (s := (encD d, 0)) [⟨b1, 84, deedC d (.slice x1 d.bits.length y1), 34⟩] (encD_byte hbb) k2 (by simp only; omega) fun h3 r le3 hr3 _ => ?_
    simp only [wO, rO, dO, List.cons_append, List.nil_append]
    simp -dsimp -implicitDefEqProofs (disch := first | with_reducible assumption | omega) [go_sem]
    exact fin_tail (fin_tail (fin_oent (fin_here (hk h3 r (le2.trans le3) (hr3 rfl)))))
  | false =>
    rw [hr] at hk
    simp only [Bool.false_eq_true, if_false] at hk
    refine x_enterA Try.func48 rfl (rs := [_]) rfl rfl mixed (by kernel_rfl) rfl rfl fun ap nd => ?_
    obtain ⟨ap1, ap2, _⟩ := ap
    simp only [Nd, Apart] at nd
    simp -dsimp -implicitDefEqProofs (disch := first | with_reducible assumption | omega) [go_sem]
    refine xnew fun b3 n_b3 h_b3 => ?_
    try simp only [Apart] at n_b3
    simp -dsimp -implicitDefEqProofs (disch := first | with_reducible assumption | omega) [go_sem]
    refine Spec.apn (dright_any _ hd fun h1 le0 ap nd => ?_)
    rw [hr]
    simp -dsimp -implicitDefEqProofs (disch := first | with_reducible assumption | omega) [go_sem]
    refine fin_tail (fin_here ?_)
    simp -dsimp -implicitDefEqProofs (disch := first | with_reducible assumption | omega) [go_sem]
    exact fin_tail (fin_tail (fin_here (hk h1 _ le0 rfl)))
/-- what Decode hands back -/
def ddec (xs : List Int) : DeedD × Int :=
  let q := rdDeed xs (0, 0)
  if q.2.1 ≠ 0 then (zeroD, q.2.1) else if rDone xs q.2.2 ≠ 0 then (zeroD, rDone xs q.2.2) else (q.1, 0)
set_option maxHeartbeats 1600000 in
set_option maxRecDepth 20000 in
theorem ddec_any {xs : List Int} (v : Value) (hx : Ints h .u8 v xs) (hl : xs.length ≤ 900000) (hk : ∀ h' bv, PH.le h h' → Ints h' .u8 bv (ddec xs).1.bits → K (.tuple #[deedV (ddec xs).1 bv, .int .i64 (ddec xs).2]) L h') :
    Spec Try.prog 56 [v] L h K := by
  obtain ⟨q, hq⟩ : ∃ q, q = rdDeed xs (0, 0) := ⟨_, rfl⟩
  have hd : ddec xs = if q.2.1 ≠ 0 then (zeroD, q.2.1) else if rDone xs q.2.2 ≠ 0 then (zeroD, rDone xs q.2.2) else (q.1, 0) := by rw [hq]; rfl
  refine x_enter Try.func56 rfl (rs := [_, _]) rfl rfl mixed (by kernel_rfl) rfl rfl ?_
  simp -dsimp -implicitDefEqProofs (disch := first | with_reducible assumption | omega) [go_sem]
  refine xnew fun b2 n_b2 h_b2 => ?_
  try simp only [Apart] at n_b2
  simp -dsimp -implicitDefEqProofs (disch := first | with_reducible assumption | omega) [go_sem]
  refine Spec.apn (open_any v hx (by omega) fun h1 br rv le1 hx1 ap nd => ?_)
  obtain ⟨qr, q2, _⟩ := ap
  simp only [Nd, Apart] at nd
  simp only [wO, rO, dO, List.cons_append, List.nil_append]
  simp -dsimp -implicitDefEqProofs (disch := first | with_reducible assumption | omega) [go_sem]
  refine Spec.apn (dread_any (s := (0, 0)) hx1 (Nat.zero_le _) fun h3 bv le3 hb3 ap nd => ?_)
  rw [← hq] at hb3 ap nd ⊢
  obtain ⟨ur, u2, _⟩ := ap
  have hb3' := hb3
  have ob := hb3.open
  obtain ⟨y1, y2, rfl, _⟩ := ob
  simp only [wO, rO, dO, List.cons_append, List.nil_append]
  simp -dsimp -implicitDefEqProofs (disch := first | with_reducible assumption | omega) [go_sem]
  refine xnew fun b5 n_b5 h_b5 => ?_
  try simp only [Apart] at n_b5
  simp -dsimp -implicitDefEqProofs (disch := first | with_reducible assumption | omega) [go_sem]
  by_cases e1 : q.2.1 = 0
  rotate_left
  · rw [if_pos e1] at hd
    rw [hd] at hk
    simp -dsimp -implicitDefEqProofs (disch := first | with_reducible assumption | omega) [go_sem]
    exact fin_tail (fin_tail (fin_tail (fin_here (hk h3 _ (le1.trans le3) (nil_ints _ .u8)))))
  rw [if_neg (by simpa using e1)] at hd
  simp -dsimp -implicitDefEqProofs (disch := first | with_reducible assumption | omega) [go_sem]
  refine call_p1 ?_
  refine rdone_any (s := q.2.2) (hx1.up le3) ?_
  by_cases e2 : rDone xs q.2.2 = 0
  rotate_left
  · rw [if_pos e2] at hd
    rw [hd] at hk
    simp only [wO, rO, dO, List.cons_append, List.nil_append]
    simp -dsimp -implicitDefEqProofs (disch := first | with_reducible assumption | omega) [go_sem]
    exact fin_tail (fin_tail (fin_tail (fin_here (hk h3 _ (le1.trans le3) (nil_ints _ .u8)))))
  rw [if_neg (by simpa using e2)] at hd
  rw [hd] at hk
  simp only [wO, rO, dO, List.cons_append, List.nil_append]
  simp -dsimp -implicitDefEqProofs (disch := first | with_reducible assumption | omega) [go_sem]
  exact fin_tail (fin_tail (fin_tail (fin_here (hk h3 _ (le1.trans le3) hb3'))))
set_option maxRecDepth 20000 in
theorem plain8_any {d : DeedD} (bv : Value) (hb : Ints h .u8 bv d.bits) (hk : K (deedV d bv) L h) : Spec Try.prog 51 [deedV d bv] L h K := by
  have ob := hb.open
  obtain ⟨x1, y1, rfl, _⟩ := ob
  refine x_enter Try.func51 rfl (rs := [_]) rfl rfl mixed (by kernel_rfl) rfl rfl ?_
  simp -dsimp -implicitDefEqProofs (disch := first | with_reducible assumption | omega) [go_sem]
  refine xnew fun b1 n_b1 h_b1 => ?_
  try simp only [Apart] at n_b1
  simp -dsimp -implicitDefEqProofs (disch := first | with_reducible assumption | omega) [go_sem]
  refine xnew fun b2 n_b2 h_b2 => ?_
  try simp only [Apart] at n_b2
  simp -dsimp -implicitDefEqProofs (disch := first | with_reducible assumption | omega) [go_sem]
  exact fin_tail (fin_tail (fin_here hk))
set_option maxHeartbeats 1600000 in
set_option maxRecDepth 20000 in
/-- like deeds are the same -/
theorem likeD_any (d : DeedD) (bv cv : Value) (hb : Ints h .u8 bv d.bits) (hc : Ints h .u8 cv d.bits) (hk : K (.bool true) L h) : Spec Try.prog 55 [deedV d bv, deedV d cv] L h K := by
  have ob := hb.open
  obtain ⟨x1, y1, rfl, _⟩ := ob
  have oc := hc.open
  obtain ⟨x2, y2, rfl, _⟩ := oc
  refine x_enter Try.func55 rfl (rs := [_]) rfl rfl mixed (by kernel_rfl) rfl rfl ?_
  simp -dsimp -implicitDefEqProofs (disch := first | with_reducible assumption | omega) [go_sem]
  refine xnew fun b1 n_b1 h_b1 => ?_
  try simp only [Apart] at n_b1
  simp -dsimp -implicitDefEqProofs (disch := first | with_reducible assumption | omega) [go_sem]
  refine xnew fun b2 n_b2 h_b2 => ?_
  try simp only [Apart] at n_b2
  simp -dsimp -implicitDefEqProofs (disch := first | with_reducible assumption | omega) [go_sem]
  refine same8 _ _ hb hc ?_
  rw [decide_eq_true rfl]
  simp -dsimp -implicitDefEqProofs (disch := first | with_reducible assumption | omega) [go_sem]
  exact fin_tail (fin_tail (fin_here hk))
def sendD : DeedD := ⟨1, 0, 0, 1, 5, 0, [], 0, zeroP, 0, false⟩
theorem sendR : rightD sendD = true := by kernel_rfl
theorem zeroP_ok : ParOk zeroP := ⟨fun z hz => by simp [wides, zeroP] at hz; omega, fun z hz => by simp [narrows, zeroP] at hz; omega⟩
theorem sendOk : DeedOk sendD := ⟨fun z hz => by simp [sendD] at hz; omega, by simp [sendD], zeroP_ok⟩
theorem sendE : encD sendD = [1, 0, 1, 5] := by simp [encD, sendD, paidD, wi, formN_lt]
def leaveD : DeedD := ⟨4, 1, 3, 0, 0, 0, [], 0, zeroP, 0, false⟩
theorem leaveE : ddec [4, 1, 3] = (leaveD, 0) := by kernel_rfl
set_option maxHeartbeats 1600000 in
set_option maxRecDepth 20000 in
theorem awake8_any (hk : ∀ h', PH.le h h' → K (.bool true) L h') : Spec Try.prog 46 [] L h K := by
  refine x_enter Try.func46 rfl (rs := [_]) rfl rfl mixed (by kernel_rfl) rfl rfl ?_
  simp -dsimp -implicitDefEqProofs (disch := first | with_reducible assumption | omega) [go_sem]
  refine denc_any (d := sendD) _ ⟨nil_ints h .u8, sendOk⟩ fun h2 r le2 hr2 => ?_
  rw [if_pos sendR, sendE] at hr2
  rw [if_pos sendR]
  have hr2' := hr2
  have or2 := hr2.open
  obtain ⟨x1, y1, rfl, _⟩ := or2
  simp -dsimp -implicitDefEqProofs (disch := first | with_reducible assumption | omega) [go_sem]
  refine xnew fun b1 n_b1 h_b1 => ?_
  try simp only [Apart] at n_b1
  simp -dsimp -implicitDefEqProofs (disch := first | with_reducible assumption | omega) [go_sem]
  refine call_pub_at (sz := 1) (n := 3) (cap := 3) [] ⟨Nat.le_refl _, by decide⟩ rfl (by decide) h_b1 fun h3 le3 s3 f3 => ?_
  simp only [List.nil_append]
  refine ddec_any (xs := [4, 1, 3]) _ ⟨s3, by decide⟩ (by decide) fun h4 bv le4 hb4 => ?_
  rw [leaveE] at hb4 ⊢
  have ob := hb4.open
  obtain ⟨x2, y2, rfl, _⟩ := ob
  simp -dsimp -implicitDefEqProofs (disch := first | with_reducible assumption | omega) [go_sem]
  refine xnew fun b2 n_b2 h_b2 => ?_
  try simp only [Apart] at n_b2
  simp -dsimp -implicitDefEqProofs (disch := first | with_reducible assumption | omega) [go_sem]
  refine xnew fun b3 n_b3 h_b3 => ?_
  try simp only [Apart] at n_b3
  simp -dsimp -implicitDefEqProofs (disch := first | with_reducible assumption | omega) [go_sem]
  refine call_pub_at (sz := 1) (n := 4) (cap := 4) [] ⟨Nat.le_refl _, by decide⟩ rfl (by decide) (by assumption) fun h5 le5 s5 f5 => ?_
  simp only [List.nil_append]
  refine same8 (xs := [1, 0, 1, 5]) (ys := [1, 0, 1, 5]) _ _ (hr2'.up (le3.trans (le4.trans le5))) ⟨s5, by decide⟩ ?_
  have w2 : h5 b2 = noC := by rw [f5 _ (by omega)]; assumption
  rw [decide_eq_true rfl]
  simp -dsimp -implicitDefEqProofs (disch := first | with_reducible assumption | omega) [go_sem, leaveD]
  exact fin_tail (fin_here (hk h5 (le2.trans (le3.trans (le4.trans le5)))))
end Go.X

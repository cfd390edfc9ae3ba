/- Contracts of a chunk's bytes: feed's form, the document's Form. Conditions: the numbers are small enough, the data are bytes. -/
import Derived.Test.YtfilkbfkhdaakaaGreatPlainG
import Derived.Test.YtfilkbfkhdaakaaGreatWV
import Derived.Test.YtfilkbfkhdaakaaGreatWA
set_option linter.unusedVariables false
set_option linter.unusedSimpArgs false
namespace Go.X
open Go.RowKit Go.Proofs Go.Bl
variable {L : Own} {h : PH} {K : PK}
abbrev chC (c : ChunkD) (dv : Value) : List Value := [.int .u64 c.feed, .int .i64 c.all, .int .i64 c.bytes, .int .i64 c.place, dv]
abbrev chV (c : ChunkD) (dv : Value) : Value := .agg #[.int .u64 c.feed, .int .i64 c.all, .int .i64 c.bytes, .int .i64 c.place, dv]
abbrev rchV (c : ChunkD) (dv : Value) : Value := .agg #[.int .u64 c.feed, .int .i64 c.place, .int .i64 c.all, .int .i64 c.bytes, dv]
structure ChOk (c : ChunkD) : Prop where
  f : 0 ≤ c.feed ∧ c.feed ≤ 18446744073709551615
  p : 0 ≤ c.place ∧ c.place ≤ 1000000
  a : 0 ≤ c.all ∧ c.all ≤ 1000000
  b : 0 ≤ c.bytes ∧ c.bytes ≤ 1000000
  d : c.data.length ≤ 4096
theorem rawN_len {b : List Int} (hb : b.length ≤ 1000000) : (rawN b).length ≤ b.length + 10 := by
  have := form10 (n := b.length) (by omega)
  simp only [rawN, List.length_append]
  omega
theorem formC_byte {c : ChunkD} (hb : ∀ z ∈ c.data, 0 ≤ z ∧ z ≤ 255) : ∀ z ∈ formC c, 0 ≤ z ∧ z ≤ 255 := by
  intro z hz
  simp only [formC, rawN, List.mem_append] at hz
  rcases hz with hz | hz | hz | hz | hz | hz
  all_goals first | exact formN_byte _ z hz | exact hb z hz
theorem formC_len {c : ChunkD} (ok : ChOk c) : (formC c).length ≤ 4200 ∧ 0 < (formC c).length := by
  have h1 := form10 (n := c.feed.toNat) (by have := ok.f; omega)
  have h2 := form10 (n := c.place.toNat) (by have := ok.p; omega)
  have h3 := form10 (n := c.all.toNat) (by have := ok.a; omega)
  have h4 := form10 (n := c.bytes.toNat) (by have := ok.b; omega)
  have h5 := rawN_len (b := c.data) (by have := ok.d; omega)
  have h6 := formN_pos c.feed.toNat
  have h7 := ok.d
  simp only [formC, List.length_append]
  omega
set_option maxHeartbeats 1600000 in
set_option maxRecDepth 20000 in
theorem fform_any {c : ChunkD} (dv : Value) (hdv : Ints h .u8 dv c.data) (ok : ChOk c) (hk : ∀ h' r, PH.le h h' → Ints h' .u8 r (formC c) → K (.tuple #[r, .int .i64 0]) L h') :
    Spec Tryz.prog 243 [chV c dv] L h K := by
  have hdv0 := hdv
  have ob := hdv.open
  obtain ⟨x1, y1, rfl, _⟩ := ob
  obtain ⟨f1, f2⟩ := ok.f
  obtain ⟨p1, p2⟩ := ok.p
  obtain ⟨a1, a2⟩ := ok.a
  obtain ⟨b1', b2'⟩ := ok.b
  have d1 := ok.d
  refine x_enter Tryz.func243 rfl (rs := [_, _]) rfl rfl mixed (by kernel_rfl) rfl rfl ?_
  simp -dsimp -implicitDefEqProofs (disch := first | with_reducible assumption | omega) [go_sem]
  refine xnew fun b1 n_b1 h_b1 => ?_
  try simp only [Apart] at n_b1
  simp -dsimp -implicitDefEqProofs (disch := first | with_reducible assumption | omega) [go_sem]
  refine xnew fun bw n_bw h_bw => ?_
  try simp only [Apart] at n_bw
  simp -dsimp -implicitDefEqProofs (disch := first | with_reducible assumption | omega) [go_sem]
  refine Spec.ap (wnum_ok (o := none) (bs := []) [_] c.feed f1 f2 rfl (by simp) fun h2 o2 B2 le2 e2 k2 l2 ap => ?_)
  simp only [wO, List.cons_append, List.nil_append, Ap] at ap
  obtain ⟨ap1, ap2, _⟩ := ap
  simp only [List.length_nil] at l2
  simp only [wO, rO, dO, List.cons_append, List.nil_append]
  simp -dsimp -implicitDefEqProofs (disch := first | with_reducible assumption | omega) [go_sem]
  refine Spec.ap (wint_ok (o := o2) (bs := B2) [_] c.place p1 (by omega) k2 (by omega) fun h3 o3 B3 le3 e3 k3 l3 ap => ?_)
  simp only [wO, List.cons_append, List.nil_append, Ap] at ap
  obtain ⟨ap3, ap4, _⟩ := ap
  simp only [wO, rO, dO, List.cons_append, List.nil_append]
  simp -dsimp -implicitDefEqProofs (disch := first | with_reducible assumption | omega) [go_sem]
  refine Spec.ap (wint_ok (o := o3) (bs := B3) [_] c.all a1 (by omega) k3 (by omega) fun h4 o4 B4 le4 e4 k4 l4 ap => ?_)
  simp only [wO, List.cons_append, List.nil_append, Ap] at ap
  obtain ⟨ap5, ap6, _⟩ := ap
  simp only [wO, rO, dO, List.cons_append, List.nil_append]
  simp -dsimp -implicitDefEqProofs (disch := first | with_reducible assumption | omega) [go_sem]
  refine Spec.ap (wint_ok (o := o4) (bs := B4) [_] c.bytes b1' (by omega) k4 (by omega) fun h5 o5 B5 le5 e5 k5 l5 ap => ?_)
  simp only [wO, List.cons_append, List.nil_append, Ap] at ap
  obtain ⟨ap7, ap8, _⟩ := ap
  simp only [wO, rO, dO, List.cons_append, List.nil_append]
  simp -dsimp -implicitDefEqProofs (disch := first | with_reducible assumption | omega) [go_sem]
  have hraw := rawN_len (b := c.data) (by omega)
  refine Spec.ap (wraw_any (o := o5) (s := (B5, 0)) [_] _ (hdv0.up (le2.trans (le3.trans (le4.trans le5)))) (by omega) k5 (by simp only; omega) fun h6 o6 le6 k6 ap => ?_)
  rw [wPut_ok (by omega)] at k6 ap ⊢
  simp only [wO, List.cons_append, List.nil_append, Ap] at ap
  obtain ⟨ap9, ap10, _⟩ := ap
  have eB : B5 ++ rawN c.data = formC c := by rw [e5, e4, e3, e2]; simp [formC, List.append_assoc]
  rw [eB] at k6 ⊢
  simp only [wO, rO, dO, List.cons_append, List.nil_append]
  simp -dsimp -implicitDefEqProofs (disch := first | with_reducible assumption | omega) [go_sem]
  have hl := formC_len ok
  refine Spec.ap (wout_any (o := o6) (s := (formC c, 0)) [_] (formC_byte (byte_of hdv0)) k6 (by simp only; omega) fun h7 r le7 hr7 _ ap5 => ?_)
  have hr7 := hr7 rfl
  have or7 := hr7.open
  obtain ⟨x7, y7, rfl, _⟩ := or7
  simp only [wO, rO, dO, List.cons_append, List.nil_append]
  simp -dsimp -implicitDefEqProofs (disch := first | with_reducible assumption | omega) [go_sem]
  exact fin_tail (fin_tail (fin_oent (fin_here (hk h7 _ (le2.trans (le3.trans (le4.trans (le5.trans (le6.trans le7))))) hr7))))
theorem xAct.weak {P : Program} {m : Sem Value} {L : Own} {h : PH} {K K' : PK} (hx : xAct P m L h K') (hd : ∀ v L' h', K' v L' h' → ∃ L'' h'', Drop L' h' L'' h'' ∧ K v L'' h'') : xAct P m L h K := by
  intro W hg
  obtain ⟨r, L', h', W', hr, hk, st⟩ := hx W hg
  obtain ⟨L'', h'', hdp, hk'⟩ := hd _ _ _ hk
  obtain ⟨g, f⟩ := hdp W' st.1
  refine ⟨r, L'', h'', W', hr, hk', ⟨g, st.2.1, fun e he => ?_⟩⟩
  obtain ⟨e', he', hb⟩ := List.mem_map.1 (f e he)
  rw [← hb]
  exact st.2.2 e' he'
/-- an own slice is appended to an own slice; its block is let go -/
theorem append_own3 {ty : Nat} {L : Own} {h : PH} {K : PK} (o o2 : Option (Nat × Nat)) (bs ys : List Int) (ho : okO o bs.length) (ho2 : okO o2 ys.length) (hy : 0 < ys.length) (hl : bs.length + ys.length ≤ 1000000)
    (hk : ∀ o', okO o' (bs ++ ys).length → apO o' L h → K (ovs o' (bs ++ ys).length) (oent 5 1 o' ((bs ++ ys).map (.int .u8)) L) h) :
    xAct Tryz.prog (Builtin.append_ #[31, 31] ty #[ovs o bs.length, ovs o2 ys.length]) (oent 5 1 o2 (ys.map (.int .u8)) (oent 5 1 o (bs.map (.int .u8)) L)) h K := by
  cases o2 with
  | none => have : ys.length = 0 := ho2; omega
  | some p =>
    obtain ⟨b2, cap2⟩ := p
    refine xAct.weak (K' := fun v L' h' => ∃ o', okO o' (bs ++ ys).length ∧ apO o' L h ∧ v = ovs o' (bs ++ ys).length ∧ L' = ⟨b2, 5, ys.map (.int .u8), cap2 * 1⟩ :: oent 5 1 o' ((bs ++ ys).map (.int .u8)) L ∧ h' = h) (xappend (t := 31) (e := 5) (sz := 1) (bytes := 1) (z := [.int .u8 0]) (by kernel_rfl) tI_5 rfl rfl rfl rfl (by decide) [⟨b2, 5, ys.map (.int .u8), cap2 * 1⟩] L o bs.length (bs.map (.int .u8)) ho (by simp) (m := ys.length) (news := ys.map (.int .u8)) (Src.own (b := b2) (t := 5) (cap := cap2 * 1) (by simp)) (by simp) (ints_one _ _) (by simp only [maxLen]; omega) (by omega) ?_) ?_
    · intro o3 i1 i2 i3
      exact ⟨o3, by simpa using i1, apO_tail i2, by rw [List.length_append], by rw [List.map_append]; rfl, rfl⟩
    · rintro v L' h' ⟨o', i1, i2, rfl, rfl, rfl⟩
      exact ⟨_, _, Drop.tail _ _ _, hk o' i1 i2⟩
end Go.X

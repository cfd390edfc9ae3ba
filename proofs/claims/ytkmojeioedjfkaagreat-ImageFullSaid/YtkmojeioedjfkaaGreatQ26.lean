/- Lemmas and contracts for a statement about the given program. Conditions: as each says. -/
import Derived.Test.YtkmojeioedjfkaaGreatQ25
set_option linter.unusedVariables false
set_option linter.unusedSimpArgs false
set_option maxHeartbeats 12800000
set_option maxRecDepth 20000
namespace Go.X
open Go.RowKit Go.Proofs Go.Bl
variable {L : Own} {h : PH} {K : PK}
abbrev penBr (b bx : Nat) : Blk := ⟨b, 177, [penR bx], 1⟩
theorem cl1_r {bx br b2 bt : Nat} {v : Value} {xs : List Int} {r : RS} (hx : Ints h .u8 v xs) (hs : r.1.1 ≤ xs.length) (hp : penBr b2 bx ∈ L)
  (hk : K (.tuple #[]) (irO bx br v (i64 xs r).2 (⟨bt, 23, [.int .u64 (i64 xs r).1], 1⟩ :: L)) h) :
  Spec Tryz.prog 93 [.pointer (some ⟨bt, 0, none⟩), .pointer (some ⟨b2, 0, none⟩)] (irO bx br v r (⟨bt, 23, [.int .u64 0], 1⟩ :: L)) h K := by
 have hz := byte_of hx
 have hpl : ∀ (e1 e2 e3 : Blk), penBr b2 bx ∈ e1 :: e2 :: e3 :: L := fun _ _ _ => List.mem_cons_of_mem _ (List.mem_cons_of_mem _ (List.mem_cons_of_mem _ hp))
 refine x_enterA Tryz.func93 rfl (rs := []) rfl rfl mixed (by kernel_rfl) rfl rfl fun ap nd => ?_
 have hb2 : h b2 = noC := Ap.mem' (L := irO bx br v r (⟨bt, 23, [.int .u64 0], 1⟩ :: L)) ap _ (hpl _ _ _)
 have fm := xFind_mem (i := 0) (by decide) nd (hpl _ _ _) rfl
 clear ap nd
 simp -dsimp -implicitDefEqProofs (disch := first|with_reducible assumption|omega) [go_sem, fm, pnR_num bx]
 refine xcallI (penR_num bx) ?_
 refine inum_r hx hs (by decide) rfl ?_
 have s1 := ((cod_64 hz).pos r hs).1
 obtain ⟨q1, e1⟩ : ∃ q, q = i64 xs r := ⟨_, rfl⟩
 rw [← e1] at s1 ⊢
 first | simp -dsimp -implicitDefEqProofs (disch := first|with_reducible assumption|omega) [go_sem] | skip
 have e : i64 xs r = (q1.1, q1.2) := by rw [e1]
 rw [e] at hk
 exact fin_here hk
theorem cl2_r {bx br b2 bt : Nat} {v : Value} {xs : List Int} {r : RS} (hx : Ints h .u8 v xs) (hs : r.1.1 ≤ xs.length) (hp : penBr b2 bx ∈ L)
  (hk : K (.tuple #[]) (irO bx br v (rdMem xs r).2 (⟨bt, 89, memC (rdMem xs r).1, 6⟩ :: L)) h) :
  Spec Tryz.prog 95 [.pointer (some ⟨bt, 0, none⟩), .pointer (some ⟨b2, 0, none⟩)] (irO bx br v r (⟨bt, 89, memC zeroM, 6⟩ :: L)) h K := by
 have hz := byte_of hx
 have hpl : ∀ (e1 e2 e3 : Blk), penBr b2 bx ∈ e1 :: e2 :: e3 :: L := fun _ _ _ => List.mem_cons_of_mem _ (List.mem_cons_of_mem _ (List.mem_cons_of_mem _ hp))
 refine x_enterA Tryz.func95 rfl (rs := []) rfl rfl mixed (by kernel_rfl) rfl rfl fun ap nd => ?_
 have hb2 : h b2 = noC := Ap.mem' (L := irO bx br v r (⟨bt, 89, memC zeroM, 6⟩ :: L)) ap _ (hpl _ _ _)
 have fm := xFind_mem (i := 0) (by decide) nd (hpl _ _ _) rfl
 clear ap nd
 first | simp -dsimp -implicitDefEqProofs (disch := first|with_reducible assumption|omega) [go_sem] | skip
 refine xanyl (.tk 1 (.tk 2 (.tk 3 (.tk 4 (.tkl 0 (.tk 5 (.tk 6 (.tk 7 (.or true 8 (.fin) (.nil)))))))))) (by kernel_rfl) (by kernel_rfl) [penBr b2 bx] (Drop.mem (hpl _ _ _)) ?_
 simp -dsimp -implicitDefEqProofs (disch := first|with_reducible assumption|omega) [go_sem, pnR_num bx]
 refine xcallI (penR_num bx) ?_
 refine inum_r hx hs (by decide) rfl ?_
 have s1 := ((cod_64 hz).pos r hs).1
 obtain ⟨q1, e1⟩ : ∃ q, q = i64 xs r := ⟨_, rfl⟩
 rw [← e1] at s1 ⊢
 refine xkp (Drop.mem (hpl _ _ _)) ?_
 first | simp -dsimp -implicitDefEqProofs (disch := first|with_reducible assumption|omega) [go_sem] | skip
 refine xanyl (.tk 1 (.tk 2 (.tk 3 (.tk 4 (.tkl 0 (.tk 5 (.tk 6 (.tk 7 (.or true 8 (.fin) (.nil)))))))))) (by kernel_rfl) (by kernel_rfl) [penBr b2 bx] (Drop.mem (hpl _ _ _)) ?_
 simp -dsimp -implicitDefEqProofs (disch := first|with_reducible assumption|omega) [go_sem, pnR_num bx]
 refine xcallI (penR_num bx) ?_
 refine inum_r hx s1 (by decide) rfl ?_
 have s2 := ((cod_64 hz).pos q1.2 s1).1
 obtain ⟨q2, e2⟩ : ∃ q, q = i64 xs q1.2 := ⟨_, rfl⟩
 rw [← e2] at s2 ⊢
 refine xkp (Drop.mem (hpl _ _ _)) ?_
 first | simp -dsimp -implicitDefEqProofs (disch := first|with_reducible assumption|omega) [go_sem] | skip
 refine xanyl (.tk 1 (.tk 2 (.tk 3 (.tk 4 (.tkl 0 (.tk 5 (.tk 6 (.tk 7 (.or true 8 (.fin) (.nil)))))))))) (by kernel_rfl) (by kernel_rfl) [penBr b2 bx] (Drop.mem (hpl _ _ _)) ?_
 simp -dsimp -implicitDefEqProofs (disch := first|with_reducible assumption|omega) [go_sem, pnR_num bx]
 refine xcallI (penR_num bx) ?_
 refine inum_r hx s2 (by decide) rfl ?_
 have s3 := ((cod_64 hz).pos q2.2 s2).1
 obtain ⟨q3, e3⟩ : ∃ q, q = i64 xs q2.2 := ⟨_, rfl⟩
 rw [← e3] at s3 ⊢
 refine xkp (Drop.mem (hpl _ _ _)) ?_
 first | simp -dsimp -implicitDefEqProofs (disch := first|with_reducible assumption|omega) [go_sem] | skip
 refine xanyl (.tk 1 (.tk 2 (.tk 3 (.tk 4 (.tkl 0 (.tk 5 (.tk 6 (.tk 7 (.or true 8 (.fin) (.nil)))))))))) (by kernel_rfl) (by kernel_rfl) [penBr b2 bx] (Drop.mem (hpl _ _ _)) ?_
 simp -dsimp -implicitDefEqProofs (disch := first|with_reducible assumption|omega) [go_sem, pnR_int bx]
 refine xcallI (penR_int bx) ?_
 refine iint_r hx s3 (by decide) rfl ?_
 have s4 := ((cod_31 hz).pos q3.2 s3).1
 obtain ⟨q4, e4⟩ : ∃ q, q = i31 xs q3.2 := ⟨_, rfl⟩
 rw [← e4] at s4 ⊢
 refine xkp (Drop.mem (hpl _ _ _)) ?_
 first | simp -dsimp -implicitDefEqProofs (disch := first|with_reducible assumption|omega) [go_sem] | skip
 refine xanyl (.tk 1 (.tk 2 (.tk 3 (.tkl 0 (.tk 4 (.tk 5 (.tk 6 (.or true 7 (.fin) (.nil))))))))) (by kernel_rfl) (by kernel_rfl) [penBr b2 bx] (Drop.mem (hpl _ _ _)) ?_
 simp -dsimp -implicitDefEqProofs (disch := first|with_reducible assumption|omega) [go_sem, pnR_int bx]
 refine xcallI (penR_int bx) ?_
 refine iint_r hx s4 (by decide) rfl ?_
 have s5 := ((cod_31 hz).pos q4.2 s4).1
 obtain ⟨q5, e5⟩ : ∃ q, q = i31 xs q4.2 := ⟨_, rfl⟩
 rw [← e5] at s5 ⊢
 refine xkp (Drop.mem (hpl _ _ _)) ?_
 first | simp -dsimp -implicitDefEqProofs (disch := first|with_reducible assumption|omega) [go_sem] | skip
 refine xanyl (.tk 1 (.tk 2 (.tk 3 (.tkl 0 (.tk 4 (.tk 5 (.tk 6 (.or true 7 (.fin) (.nil))))))))) (by kernel_rfl) (by kernel_rfl) [penBr b2 bx] (Drop.mem (hpl _ _ _)) ?_
 simp -dsimp -implicitDefEqProofs (disch := first|with_reducible assumption|omega) [go_sem, pnR_int bx]
 refine xcallI (penR_int bx) ?_
 refine iint_r hx s5 (by decide) rfl ?_
 have s6 := ((cod_31 hz).pos q5.2 s5).1
 obtain ⟨q6, e6⟩ : ∃ q, q = i31 xs q5.2 := ⟨_, rfl⟩
 rw [← e6] at s6 ⊢
 refine xkp (Drop.mem (hpl _ _ _)) ?_
 first | simp -dsimp -implicitDefEqProofs (disch := first|with_reducible assumption|omega) [go_sem] | skip
 have e : rdMem xs r = (⟨q1.1, q2.1, q3.1, q4.1, q5.1, q6.1⟩, q6.2) := by simp only [rdMem, mp, sq, ← e1, ← e2, ← e3, ← e4, ← e5, ← e6]
 rw [e] at hk
 exact fin_here hk
theorem cl3_r {bx br b2 bt : Nat} {v : Value} {xs : List Int} {r : RS} (hx : Ints h .u8 v xs) (hs : r.1.1 ≤ xs.length) (hp : penBr b2 bx ∈ L)
  (hk : K (.tuple #[]) (irO bx br v (i31 xs r).2 (⟨bt, 3, [.int .i64 (i31 xs r).1], 1⟩ :: L)) h) :
  Spec Tryz.prog 97 [.pointer (some ⟨bt, 0, none⟩), .pointer (some ⟨b2, 0, none⟩)] (irO bx br v r (⟨bt, 3, [.int .i64 0], 1⟩ :: L)) h K := by
 have hz := byte_of hx
 have hpl : ∀ (e1 e2 e3 : Blk), penBr b2 bx ∈ e1 :: e2 :: e3 :: L := fun _ _ _ => List.mem_cons_of_mem _ (List.mem_cons_of_mem _ (List.mem_cons_of_mem _ hp))
 refine x_enterA Tryz.func97 rfl (rs := []) rfl rfl mixed (by kernel_rfl) rfl rfl fun ap nd => ?_
 have hb2 : h b2 = noC := Ap.mem' (L := irO bx br v r (⟨bt, 3, [.int .i64 0], 1⟩ :: L)) ap _ (hpl _ _ _)
 have fm := xFind_mem (i := 0) (by decide) nd (hpl _ _ _) rfl
 clear ap nd
 simp -dsimp -implicitDefEqProofs (disch := first|with_reducible assumption|omega) [go_sem, fm, pnR_int bx]
 refine xcallI (penR_int bx) ?_
 refine iint_r hx hs (by decide) rfl ?_
 have s1 := ((cod_31 hz).pos r hs).1
 obtain ⟨q1, e1⟩ : ∃ q, q = i31 xs r := ⟨_, rfl⟩
 rw [← e1] at s1 ⊢
 first | simp -dsimp -implicitDefEqProofs (disch := first|with_reducible assumption|omega) [go_sem] | skip
 have e : i31 xs r = (q1.1, q1.2) := by rw [e1]
 rw [e] at hk
 exact fin_here hk
theorem cl4_r {bx br b2 bt : Nat} {v : Value} {xs : List Int} {r : RS} (hx : Ints h .u8 v xs) (hs : r.1.1 ≤ xs.length) (hp : penBr b2 bx ∈ L)
  (hk : K (.tuple #[]) (irO bx br v (i31 xs r).2 (⟨bt, 3, [.int .i64 (i31 xs r).1], 1⟩ :: L)) h) :
  Spec Tryz.prog 98 [.pointer (some ⟨bt, 0, none⟩), .pointer (some ⟨b2, 0, none⟩)] (irO bx br v r (⟨bt, 3, [.int .i64 0], 1⟩ :: L)) h K := by
 have hz := byte_of hx
 have hpl : ∀ (e1 e2 e3 : Blk), penBr b2 bx ∈ e1 :: e2 :: e3 :: L := fun _ _ _ => List.mem_cons_of_mem _ (List.mem_cons_of_mem _ (List.mem_cons_of_mem _ hp))
 refine x_enterA Tryz.func98 rfl (rs := []) rfl rfl mixed (by kernel_rfl) rfl rfl fun ap nd => ?_
 have hb2 : h b2 = noC := Ap.mem' (L := irO bx br v r (⟨bt, 3, [.int .i64 0], 1⟩ :: L)) ap _ (hpl _ _ _)
 have fm := xFind_mem (i := 0) (by decide) nd (hpl _ _ _) rfl
 clear ap nd
 simp -dsimp -implicitDefEqProofs (disch := first|with_reducible assumption|omega) [go_sem, fm, pnR_int bx]
 refine xcallI (penR_int bx) ?_
 refine iint_r hx hs (by decide) rfl ?_
 have s1 := ((cod_31 hz).pos r hs).1
 obtain ⟨q1, e1⟩ : ∃ q, q = i31 xs r := ⟨_, rfl⟩
 rw [← e1] at s1 ⊢
 first | simp -dsimp -implicitDefEqProofs (disch := first|with_reducible assumption|omega) [go_sem] | skip
 have e : i31 xs r = (q1.1, q1.2) := by rw [e1]
 rw [e] at hk
 exact fin_here hk
theorem cl5_r {bx br b2 bt : Nat} {v : Value} {xs : List Int} {r : RS} (hx : Ints h .u8 v xs) (hs : r.1.1 ≤ xs.length) (hp : penBr b2 bx ∈ L)
  (hk : K (.tuple #[]) (irO bx br v (rdDep xs r).2 (⟨bt, 116, depC (rdDep xs r).1, 4⟩ :: L)) h) :
  Spec Tryz.prog 100 [.pointer (some ⟨bt, 0, none⟩), .pointer (some ⟨b2, 0, none⟩)] (irO bx br v r (⟨bt, 116, depC zeroDep, 4⟩ :: L)) h K := by
 have hz := byte_of hx
 have hpl : ∀ (e1 e2 e3 : Blk), penBr b2 bx ∈ e1 :: e2 :: e3 :: L := fun _ _ _ => List.mem_cons_of_mem _ (List.mem_cons_of_mem _ (List.mem_cons_of_mem _ hp))
 refine x_enterA Tryz.func100 rfl (rs := []) rfl rfl mixed (by kernel_rfl) rfl rfl fun ap nd => ?_
 have hb2 : h b2 = noC := Ap.mem' (L := irO bx br v r (⟨bt, 116, depC zeroDep, 4⟩ :: L)) ap _ (hpl _ _ _)
 have fm := xFind_mem (i := 0) (by decide) nd (hpl _ _ _) rfl
 clear ap nd
 first | simp -dsimp -implicitDefEqProofs (disch := first|with_reducible assumption|omega) [go_sem] | skip
 refine xanyl (.tk 1 (.tk 2 (.tk 3 (.tkl 0 (.tk 4 (.tk 5 (.tk 6 (.or true 7 (.fin) (.nil))))))))) (by kernel_rfl) (by kernel_rfl) [penBr b2 bx] (Drop.mem (hpl _ _ _)) ?_
 simp -dsimp -implicitDefEqProofs (disch := first|with_reducible assumption|omega) [go_sem, pnR_int bx]
 refine xcallI (penR_int bx) ?_
 refine iint_r hx hs (by decide) rfl ?_
 have s1 := ((cod_31 hz).pos r hs).1
 obtain ⟨q1, e1⟩ : ∃ q, q = i31 xs r := ⟨_, rfl⟩
 rw [← e1] at s1 ⊢
 refine xkp (Drop.mem (hpl _ _ _)) ?_
 first | simp -dsimp -implicitDefEqProofs (disch := first|with_reducible assumption|omega) [go_sem] | skip
 refine xanyl (.tk 1 (.tk 2 (.tk 3 (.tkl 0 (.tk 4 (.tk 5 (.tk 6 (.or true 7 (.fin) (.nil))))))))) (by kernel_rfl) (by kernel_rfl) [penBr b2 bx] (Drop.mem (hpl _ _ _)) ?_
 simp -dsimp -implicitDefEqProofs (disch := first|with_reducible assumption|omega) [go_sem, pnR_int bx]
 refine xcallI (penR_int bx) ?_
 refine iint_r hx s1 (by decide) rfl ?_
 have s2 := ((cod_31 hz).pos q1.2 s1).1
 obtain ⟨q2, e2⟩ : ∃ q, q = i31 xs q1.2 := ⟨_, rfl⟩
 rw [← e2] at s2 ⊢
 refine xkp (Drop.mem (hpl _ _ _)) ?_
 first | simp -dsimp -implicitDefEqProofs (disch := first|with_reducible assumption|omega) [go_sem] | skip
 refine xanyl (.tk 1 (.tk 2 (.tk 3 (.tkl 0 (.tk 4 (.tk 5 (.tk 6 (.or true 7 (.fin) (.nil))))))))) (by kernel_rfl) (by kernel_rfl) [penBr b2 bx] (Drop.mem (hpl _ _ _)) ?_
 simp -dsimp -implicitDefEqProofs (disch := first|with_reducible assumption|omega) [go_sem, pnR_num bx]
 refine xcallI (penR_num bx) ?_
 refine inum_r hx s2 (by decide) rfl ?_
 have s3 := ((cod_64 hz).pos q2.2 s2).1
 obtain ⟨q3, e3⟩ : ∃ q, q = i64 xs q2.2 := ⟨_, rfl⟩
 rw [← e3] at s3 ⊢
 refine xkp (Drop.mem (hpl _ _ _)) ?_
 first | simp -dsimp -implicitDefEqProofs (disch := first|with_reducible assumption|omega) [go_sem] | skip
 refine xanyl (.tk 1 (.tk 2 (.tk 3 (.tkl 0 (.tk 4 (.tk 5 (.tk 6 (.or true 7 (.fin) (.nil))))))))) (by kernel_rfl) (by kernel_rfl) [penBr b2 bx] (Drop.mem (hpl _ _ _)) ?_
 simp -dsimp -implicitDefEqProofs (disch := first|with_reducible assumption|omega) [go_sem, pnR_flag bx]
 refine xcallI (penR_flag bx) ?_
 refine iflag_r hx s3 (by decide) rfl ?_
 have s4 := ((cod_flag hz).pos q3.2 s3).1
 obtain ⟨q4, e4⟩ : ∃ q, q = iF xs q3.2 := ⟨_, rfl⟩
 rw [← e4] at s4 ⊢
 refine xkp (Drop.mem (hpl _ _ _)) ?_
 first | simp -dsimp -implicitDefEqProofs (disch := first|with_reducible assumption|omega) [go_sem] | skip
 have e : rdDep xs r = (⟨q1.1, q2.1, q3.1, q4.1⟩, q4.2) := by simp only [rdDep, mp, sq, ← e1, ← e2, ← e3, ← e4]
 rw [e] at hk
 exact fin_here hk
theorem cl6_r {bx br b2 bt : Nat} {v : Value} {xs : List Int} {r : RS} (hx : Ints h .u8 v xs) (hs : r.1.1 ≤ xs.length) (hp : penBr b2 bx ∈ L)
  (hk : K (.tuple #[]) (irO bx br v (rdDue xs r).2 (⟨bt, 46, dueC (rdDue xs r).1, 3⟩ :: L)) h) :
  Spec Tryz.prog 102 [.pointer (some ⟨bt, 0, none⟩), .pointer (some ⟨b2, 0, none⟩)] (irO bx br v r (⟨bt, 46, dueC zeroDue, 3⟩ :: L)) h K := by
 have hz := byte_of hx
 have hpl : ∀ (e1 e2 e3 : Blk), penBr b2 bx ∈ e1 :: e2 :: e3 :: L := fun _ _ _ => List.mem_cons_of_mem _ (List.mem_cons_of_mem _ (List.mem_cons_of_mem _ hp))
 refine x_enterA Tryz.func102 rfl (rs := []) rfl rfl mixed (by kernel_rfl) rfl rfl fun ap nd => ?_
 have hb2 : h b2 = noC := Ap.mem' (L := irO bx br v r (⟨bt, 46, dueC zeroDue, 3⟩ :: L)) ap _ (hpl _ _ _)
 have fm := xFind_mem (i := 0) (by decide) nd (hpl _ _ _) rfl
 clear ap nd
 first | simp -dsimp -implicitDefEqProofs (disch := first|with_reducible assumption|omega) [go_sem] | skip
 refine xanyl (.tk 1 (.tk 2 (.tk 3 (.tkl 0 (.tk 4 (.tk 5 (.tk 6 (.or true 7 (.fin) (.nil))))))))) (by kernel_rfl) (by kernel_rfl) [penBr b2 bx] (Drop.mem (hpl _ _ _)) ?_
 simp -dsimp -implicitDefEqProofs (disch := first|with_reducible assumption|omega) [go_sem, pnR_int bx]
 refine xcallI (penR_int bx) ?_
 refine iint_r hx hs (by decide) rfl ?_
 have s1 := ((cod_31 hz).pos r hs).1
 obtain ⟨q1, e1⟩ : ∃ q, q = i31 xs r := ⟨_, rfl⟩
 rw [← e1] at s1 ⊢
 refine xkp (Drop.mem (hpl _ _ _)) ?_
 first | simp -dsimp -implicitDefEqProofs (disch := first|with_reducible assumption|omega) [go_sem] | skip
 refine xanyl (.tk 1 (.tk 2 (.tk 3 (.tkl 0 (.tk 4 (.tk 5 (.tk 6 (.or true 7 (.fin) (.nil))))))))) (by kernel_rfl) (by kernel_rfl) [penBr b2 bx] (Drop.mem (hpl _ _ _)) ?_
 simp -dsimp -implicitDefEqProofs (disch := first|with_reducible assumption|omega) [go_sem, pnR_int bx]
 refine xcallI (penR_int bx) ?_
 refine iint_r hx s1 (by decide) rfl ?_
 have s2 := ((cod_31 hz).pos q1.2 s1).1
 obtain ⟨q2, e2⟩ : ∃ q, q = i31 xs q1.2 := ⟨_, rfl⟩
 rw [← e2] at s2 ⊢
 refine xkp (Drop.mem (hpl _ _ _)) ?_
 first | simp -dsimp -implicitDefEqProofs (disch := first|with_reducible assumption|omega) [go_sem] | skip
 refine xanyl (.tk 1 (.tk 2 (.tk 3 (.tkl 0 (.tk 4 (.tk 5 (.tk 6 (.or true 7 (.fin) (.nil))))))))) (by kernel_rfl) (by kernel_rfl) [penBr b2 bx] (Drop.mem (hpl _ _ _)) ?_
 simp -dsimp -implicitDefEqProofs (disch := first|with_reducible assumption|omega) [go_sem, pnR_num bx]
 refine xcallI (penR_num bx) ?_
 refine inum_r hx s2 (by decide) rfl ?_
 have s3 := ((cod_64 hz).pos q2.2 s2).1
 obtain ⟨q3, e3⟩ : ∃ q, q = i64 xs q2.2 := ⟨_, rfl⟩
 rw [← e3] at s3 ⊢
 refine xkp (Drop.mem (hpl _ _ _)) ?_
 first | simp -dsimp -implicitDefEqProofs (disch := first|with_reducible assumption|omega) [go_sem] | skip
 have e : rdDue xs r = (⟨q1.1, q2.1, q3.1⟩, q3.2) := by simp only [rdDue, mp, sq, ← e1, ← e2, ← e3]
 rw [e] at hk
 exact fin_here hk
theorem cl8_r {bx br b2 bt : Nat} {v : Value} {xs : List Int} {r : RS} (hx : Ints h .u8 v xs) (hs : r.1.1 ≤ xs.length) (hp : penBr b2 bx ∈ L)
  (hk : ∀ h' w, PH.le h h' → Ints h' .u8 w (iR xs r).1 → K (.tuple #[]) (irO bx br v (iR xs r).2 (⟨bt, 38, [w], 1⟩ :: L)) h') :
  Spec Tryz.prog 107 [.pointer (some ⟨bt, 0, none⟩), .pointer (some ⟨b2, 0, none⟩)] (irO bx br v r (⟨bt, 38, [.slice none 0 0], 1⟩ :: L)) h K := by
 have hpl : ∀ (e1 e2 e3 : Blk), penBr b2 bx ∈ e1 :: e2 :: e3 :: L := fun _ _ _ => List.mem_cons_of_mem _ (List.mem_cons_of_mem _ (List.mem_cons_of_mem _ hp))
 refine x_enterA Tryz.func107 rfl (rs := []) rfl rfl mixed (by kernel_rfl) rfl rfl fun ap nd => ?_
 have hb2 : h b2 = noC := Ap.mem' (L := irO bx br v r (⟨bt, 38, [.slice none 0 0], 1⟩ :: L)) ap _ (hpl _ _ _)
 have fm := xFind_mem (i := 0) (by decide) nd (hpl _ _ _) rfl
 clear ap nd
 simp -dsimp -implicitDefEqProofs (disch := first|with_reducible assumption|omega) [go_sem, fm, pnR_raw bx]
 refine xcallI (penR_raw bx) ?_
 refine iraw_r hx hs (by decide) rfl fun h1 w le1 i1 => ?_
 first | simp -dsimp -implicitDefEqProofs (disch := first|with_reducible assumption|omega) [go_sem] | skip
 exact fin_here (hk h1 w le1 i1)
def mc (a b : Value) (p : ParD) (c d e f g y n : Value) : List Value := a :: b :: (parC p ++ [c, d, e, f, g, y, n])
theorem mc_zero : motC zeroQM = mc (.int .i64 0) (.int .i64 0) zeroP (.int .i64 0) (.int .u64 0) (.int .i64 0) (.int .i64 0) (.int .i64 0) (.slice none 0 0) (.slice none 0 0) := rfl
section
variable (a b c d e f g y n x : Value) (p p' : ParD)
theorem mc_len : (mc a b p c d e f g y n).length = 33 := rfl
theorem mc_wr : wr (mc a b p c d e f g y n) 2 (parC p') = mc a b p' c d e f g y n := by simp [mc, parC, wr]
theorem mc_s0 : (mc a b p c d e f g y n).set 0 x = mc x b p c d e f g y n := rfl
theorem mc_g0 : (mc a b p c d e f g y n)[0]? = some a := rfl
theorem mc_s1 : (mc a b p c d e f g y n).set 1 x = mc a x p c d e f g y n := rfl
theorem mc_g1 : (mc a b p c d e f g y n)[1]? = some b := rfl
theorem mc_s26 : (mc a b p c d e f g y n).set 26 x = mc a b p x d e f g y n := rfl
theorem mc_g26 : (mc a b p c d e f g y n)[26]? = some c := rfl
theorem mc_s27 : (mc a b p c d e f g y n).set 27 x = mc a b p c x e f g y n := rfl
theorem mc_g27 : (mc a b p c d e f g y n)[27]? = some d := rfl
theorem mc_s28 : (mc a b p c d e f g y n).set 28 x = mc a b p c d x f g y n := rfl
theorem mc_g28 : (mc a b p c d e f g y n)[28]? = some e := rfl
theorem mc_s29 : (mc a b p c d e f g y n).set 29 x = mc a b p c d e x g y n := rfl
theorem mc_g29 : (mc a b p c d e f g y n)[29]? = some f := rfl
theorem mc_s30 : (mc a b p c d e f g y n).set 30 x = mc a b p c d e f x y n := rfl
theorem mc_g30 : (mc a b p c d e f g y n)[30]? = some g := rfl
theorem mc_s31 : (mc a b p c d e f g y n).set 31 x = mc a b p c d e f g x n := rfl
theorem mc_g31 : (mc a b p c d e f g y n)[31]? = some y := rfl
theorem mc_s32 : (mc a b p c d e f g y n).set 32 x = mc a b p c d e f g y x := rfl
theorem mc_g32 : (mc a b p c d e f g y n)[32]? = some n := rfl
end
theorem imot_r {bx br bt : Nat} {v : Value} {xs : List Int} {r : RS} (hx : Ints h .u8 v xs) (hs : r.1.1 ≤ xs.length)
  (hk : ∀ h' wy wn, PH.le h h' → Ints h' .u8 wy (rdMot xs r).1.yes → Ints h' .u8 wn (rdMot xs r).1.no → K (.tuple #[]) (irO bx br v (rdMot xs r).2 (⟨bt, 111, motC (wy, wn, (rdMot xs r).1), 33⟩ :: L)) h') :
  Spec Tryz.prog 105 [penR bx, .pointer (some ⟨bt, 0, none⟩)] (irO bx br v r (⟨bt, 111, motC zeroQM, 33⟩ :: L)) h K := by
 rw [mc_zero]
 have hz := byte_of hx
 have dn : ∀ (A : Own) (h1 h2 : PH), PH.le h2 h1 → Drop A h1 [] h2 := fun A h1 h2 le => (Drop.forget le).trans fun W hg => ⟨⟨hg.sub, (fun e he => by cases he), List.nodup_nil, (fun e he => by cases he)⟩, (fun e he => by cases he)⟩
 refine x_enterA Tryz.func105 rfl (rs := []) rfl rfl mixed (by kernel_rfl) rfl rfl fun ap nd => ?_
 simp only [Nd, Apart] at nd
 obtain ⟨⟨nd1, nd2, _⟩, ⟨nd5, _⟩, _⟩ := nd
 have hbt : h bt = noC := ap.2.2.1
 clear ap
 first | simp -dsimp -implicitDefEqProofs (disch := first|with_reducible assumption|omega) [go_sem] | skip
 refine xanyl (.tk 0 (.tk 1 (.tk 2 (.tk 3 (.tk 4 (.tk 5 (.tk 6 (.or true 7 (.fin) (.nil))))))))) (by kernel_rfl) (by kernel_rfl) [] (dn _ _ _ (PH.le_refl _)) ?_
 simp -dsimp -implicitDefEqProofs (disch := first|with_reducible assumption|omega) [go_sem, pnR_int bx]
 refine xcallI (penR_int bx) ?_
 refine iint_r hx hs (by decide) (mc_g0 _ _ _ _ _ _ _ _ _ _) ?_
 rw [mc_s0]
 have s1 := ((cod_31 hz).pos r hs).1
 obtain ⟨q1, e1⟩ : ∃ q, q = i31 xs r := ⟨_, rfl⟩
 rw [← e1] at s1 ⊢
 refine xkp (dn _ _ _ (PH.le_refl _)) ?_
 first | simp -dsimp -implicitDefEqProofs (disch := first|with_reducible assumption|omega) [go_sem] | skip
 refine xanyl (.tk 0 (.tk 1 (.tk 2 (.tk 3 (.tk 4 (.tk 5 (.tk 6 (.or true 7 (.fin) (.nil))))))))) (by kernel_rfl) (by kernel_rfl) [] (dn _ _ _ (PH.le_refl _)) ?_
 simp -dsimp -implicitDefEqProofs (disch := first|with_reducible assumption|omega) [go_sem, pnR_int bx]
 refine xcallI (penR_int bx) ?_
 refine iint_r hx s1 (by decide) (mc_g1 _ _ _ _ _ _ _ _ _ _) ?_
 rw [mc_s1]
 have s2 := ((cod_31 hz).pos q1.2 s1).1
 obtain ⟨q2, e2⟩ : ∃ q, q = i31 xs q1.2 := ⟨_, rfl⟩
 rw [← e2] at s2 ⊢
 refine xkp (dn _ _ _ (PH.le_refl _)) ?_
 simp -dsimp -implicitDefEqProofs (disch := first|with_reducible assumption|omega) [go_sem, xNth_of (mc_g1 _ _ _ _ _ _ _ _ _ _)]
 refine xif_dec (fun c1 => ?_) (fun c1 => ?_)
 ·first | simp -dsimp -implicitDefEqProofs (disch := first|with_reducible assumption|omega) [go_sem] | skip
  first | simp -dsimp -implicitDefEqProofs (disch := first|with_reducible assumption|omega) [go_sem] | skip
  refine xanyl (.tk 0 (.tk 1 (.tk 2 (.tk 3 (.tk 4 (.tk 5 (.tk 6 (.or true 7 (.fin) (.nil))))))))) (by kernel_rfl) (by kernel_rfl) [] (dn _ _ _ (PH.le_refl _)) ?_
  simp -dsimp -implicitDefEqProofs (disch := first|with_reducible assumption|omega) [go_sem, pnR_params bx]
  refine xcallI (penR_params bx) ?_
  refine iparams_r hx s2 (by decide) (by rw [mc_len]; decide) (mc_wr _ _ _ _ _ _ _ _ _ _ _) fun g1 lg1 => ?_
  rw [mc_wr]
  have s3 := ((cod_par hz).pos q2.2 s2).1
  obtain ⟨q3, e3⟩ : ∃ q, q = iP xs q2.2 := ⟨_, rfl⟩
  rw [← e3] at s3 ⊢
  refine xkp (dn _ _ _ lg1) ?_
  first | simp -dsimp -implicitDefEqProofs (disch := first|with_reducible assumption|omega) [go_sem] | skip
  refine xanyl (.tk 0 (.tk 1 (.tk 2 (.tk 3 (.tk 4 (.tk 5 (.tk 6 (.or true 7 (.fin) (.nil))))))))) (by kernel_rfl) (by kernel_rfl) [] (dn _ _ _ (PH.le_refl _)) ?_
  simp -dsimp -implicitDefEqProofs (disch := first|with_reducible assumption|omega) [go_sem, pnR_int bx]
  refine xcallI (penR_int bx) ?_
  refine iint_r (hx.up lg1) s3 (by decide) (mc_g26 _ _ _ _ _ _ _ _ _ _) ?_
  rw [mc_s26]
  have s4 := ((cod_31 hz).pos q3.2 s3).1
  obtain ⟨q4, e4⟩ : ∃ q, q = i31 xs q3.2 := ⟨_, rfl⟩
  rw [← e4] at s4 ⊢
  refine xkp (dn _ _ _ (PH.le_refl _)) ?_
  first | simp -dsimp -implicitDefEqProofs (disch := first|with_reducible assumption|omega) [go_sem] | skip
  refine xanyl (.tk 0 (.tk 1 (.tk 2 (.tk 3 (.tk 4 (.tk 5 (.tk 6 (.or true 7 (.fin) (.nil))))))))) (by kernel_rfl) (by kernel_rfl) [] (dn _ _ _ (PH.le_refl _)) ?_
  simp -dsimp -implicitDefEqProofs (disch := first|with_reducible assumption|omega) [go_sem, pnR_num bx]
  refine xcallI (penR_num bx) ?_
  refine inum_r (hx.up lg1) s4 (by decide) (mc_g27 _ _ _ _ _ _ _ _ _ _) ?_
  rw [mc_s27]
  have s5 := ((cod_64 hz).pos q4.2 s4).1
  obtain ⟨q5, e5⟩ : ∃ q, q = i64 xs q4.2 := ⟨_, rfl⟩
  rw [← e5] at s5 ⊢
  refine xkp (dn _ _ _ (PH.le_refl _)) ?_
  first | simp -dsimp -implicitDefEqProofs (disch := first|with_reducible assumption|omega) [go_sem] | skip
  refine xanyl (.tk 0 (.tk 1 (.tk 2 (.tk 3 (.tk 4 (.tk 5 (.tk 6 (.or true 7 (.fin) (.nil))))))))) (by kernel_rfl) (by kernel_rfl) [] (dn _ _ _ (PH.le_refl _)) ?_
  simp -dsimp -implicitDefEqProofs (disch := first|with_reducible assumption|omega) [go_sem, pnR_int bx]
  refine xcallI (penR_int bx) ?_
  refine iint_r (hx.up lg1) s5 (by decide) (mc_g28 _ _ _ _ _ _ _ _ _ _) ?_
  rw [mc_s28]
  have s6 := ((cod_31 hz).pos q5.2 s5).1
  obtain ⟨q6, e6⟩ : ∃ q, q = i31 xs q5.2 := ⟨_, rfl⟩
  rw [← e6] at s6 ⊢
  refine xkp (dn _ _ _ (PH.le_refl _)) ?_
  first | simp -dsimp -implicitDefEqProofs (disch := first|with_reducible assumption|omega) [go_sem] | skip
  refine xanyl (.tk 0 (.tk 1 (.tk 2 (.tk 3 (.tk 4 (.tk 5 (.tk 6 (.or true 7 (.fin) (.nil))))))))) (by kernel_rfl) (by kernel_rfl) [] (dn _ _ _ (PH.le_refl _)) ?_
  simp -dsimp -implicitDefEqProofs (disch := first|with_reducible assumption|omega) [go_sem, pnR_int bx]
  refine xcallI (penR_int bx) ?_
  refine iint_r (hx.up lg1) s6 (by decide) (mc_g29 _ _ _ _ _ _ _ _ _ _) ?_
  rw [mc_s29]
  have s7 := ((cod_31 hz).pos q6.2 s6).1
  obtain ⟨q7, e7⟩ : ∃ q, q = i31 xs q6.2 := ⟨_, rfl⟩
  rw [← e7] at s7 ⊢
  refine xkp (dn _ _ _ (PH.le_refl _)) ?_
  first | simp -dsimp -implicitDefEqProofs (disch := first|with_reducible assumption|omega) [go_sem] | skip
  refine xanyl (.tk 0 (.tk 1 (.tk 2 (.tk 3 (.tk 4 (.tk 5 (.tk 6 (.or true 7 (.fin) (.nil))))))))) (by kernel_rfl) (by kernel_rfl) [] (dn _ _ _ (PH.le_refl _)) ?_
  simp -dsimp -implicitDefEqProofs (disch := first|with_reducible assumption|omega) [go_sem, pnR_int bx]
  refine xcallI (penR_int bx) ?_
  refine iint_r (hx.up lg1) s7 (by decide) (mc_g30 _ _ _ _ _ _ _ _ _ _) ?_
  rw [mc_s30]
  have s8 := ((cod_31 hz).pos q7.2 s7).1
  obtain ⟨q8, e8⟩ : ∃ q, q = i31 xs q7.2 := ⟨_, rfl⟩
  rw [← e8] at s8 ⊢
  refine xkp (dn _ _ _ (PH.le_refl _)) ?_
  first | simp -dsimp -implicitDefEqProofs (disch := first|with_reducible assumption|omega) [go_sem] | skip
  refine xanyl (.tk 0 (.tk 1 (.tk 2 (.tk 3 (.tk 4 (.tk 5 (.tk 6 (.or true 7 (.fin) (.nil))))))))) (by kernel_rfl) (by kernel_rfl) [] (dn _ _ _ (PH.le_refl _)) ?_
  simp -dsimp -implicitDefEqProofs (disch := first|with_reducible assumption|omega) [go_sem, pnR_raw bx]
  refine xcallI (penR_raw bx) ?_
  refine iraw_r (hx.up lg1) s8 (by decide) (mc_g31 _ _ _ _ _ _ _ _ _ _) fun gy wgy lgy igy => ?_
  rw [mc_s31]
  have s9 := ((cod_raw hz).pos q8.2 s8).1
  obtain ⟨q9, e9⟩ : ∃ q, q = iR xs q8.2 := ⟨_, rfl⟩
  rw [← e9] at s9 igy ⊢
  refine xkp (dn _ _ _ lgy) ?_
  first | simp -dsimp -implicitDefEqProofs (disch := first|with_reducible assumption|omega) [go_sem] | skip
  refine xanyl (.tk 0 (.tk 1 (.tk 2 (.tk 3 (.tk 4 (.tk 5 (.tk 6 (.or true 7 (.fin) (.nil))))))))) (by kernel_rfl) (by kernel_rfl) [] (dn _ _ _ (PH.le_refl _)) ?_
  simp -dsimp -implicitDefEqProofs (disch := first|with_reducible assumption|omega) [go_sem, pnR_raw bx]
  refine xcallI (penR_raw bx) ?_
  refine iraw_r (hx.up (lg1.trans lgy)) s9 (by decide) (mc_g32 _ _ _ _ _ _ _ _ _ _) fun gn wgn lgn ign => ?_
  rw [mc_s32]
  have s10 := ((cod_raw hz).pos q9.2 s9).1
  obtain ⟨q10, e10⟩ : ∃ q, q = iR xs q9.2 := ⟨_, rfl⟩
  rw [← e10] at s10 ign ⊢
  refine xkp (dn _ _ _ lgn) ?_
  first | simp -dsimp -implicitDefEqProofs (disch := first|with_reducible assumption|omega) [go_sem] | skip
  have e : rdMot xs r = (⟨q1.1, q2.1, q3.1, q4.1, q5.1, q6.1, q7.1, q8.1, q9.1, q10.1⟩, q10.2) := by
   have e3' : iPw xs q2.1 q2.2 = q3 := by rw [iPw, if_pos c1, e3]
   simp only [rdMot, mp, sq, ← e1, ← e2, e3', ← e4, ← e5, ← e6, ← e7, ← e8, ← e9, ← e10]
  rw [e] at hk
  exact fin_here (hk gn wgy wgn ((lg1.trans lgy).trans lgn) (igy.up lgn) ign)
 ·first | simp -dsimp -implicitDefEqProofs (disch := first|with_reducible assumption|omega) [go_sem] | skip
  obtain ⟨q3, e3⟩ : ∃ q : ParD × RS, q = (zeroP, q2.2) := ⟨_, rfl⟩
  have s3 : q3.2.1.1 ≤ xs.length := by rw [e3]; exact s2
  rw [show q2.2 = q3.2 by rw [e3]]
  first | simp -dsimp -implicitDefEqProofs (disch := first|with_reducible assumption|omega) [go_sem] | skip
  refine xanyl (.tk 0 (.tk 1 (.tk 2 (.tk 3 (.tk 4 (.tk 5 (.tk 6 (.or true 7 (.fin) (.nil))))))))) (by kernel_rfl) (by kernel_rfl) [] (dn _ _ _ (PH.le_refl _)) ?_
  simp -dsimp -implicitDefEqProofs (disch := first|with_reducible assumption|omega) [go_sem, pnR_int bx]
  refine xcallI (penR_int bx) ?_
  refine iint_r hx s3 (by decide) (mc_g26 _ _ _ _ _ _ _ _ _ _) ?_
  rw [mc_s26]
  have s4 := ((cod_31 hz).pos q3.2 s3).1
  obtain ⟨q4, e4⟩ : ∃ q, q = i31 xs q3.2 := ⟨_, rfl⟩
  rw [← e4] at s4 ⊢
  refine xkp (dn _ _ _ (PH.le_refl _)) ?_
  first | simp -dsimp -implicitDefEqProofs (disch := first|with_reducible assumption|omega) [go_sem] | skip
  refine xanyl (.tk 0 (.tk 1 (.tk 2 (.tk 3 (.tk 4 (.tk 5 (.tk 6 (.or true 7 (.fin) (.nil))))))))) (by kernel_rfl) (by kernel_rfl) [] (dn _ _ _ (PH.le_refl _)) ?_
  simp -dsimp -implicitDefEqProofs (disch := first|with_reducible assumption|omega) [go_sem, pnR_num bx]
  refine xcallI (penR_num bx) ?_
  refine inum_r hx s4 (by decide) (mc_g27 _ _ _ _ _ _ _ _ _ _) ?_
  rw [mc_s27]
  have s5 := ((cod_64 hz).pos q4.2 s4).1
  obtain ⟨q5, e5⟩ : ∃ q, q = i64 xs q4.2 := ⟨_, rfl⟩
  rw [← e5] at s5 ⊢
  refine xkp (dn _ _ _ (PH.le_refl _)) ?_
  first | simp -dsimp -implicitDefEqProofs (disch := first|with_reducible assumption|omega) [go_sem] | skip
  refine xanyl (.tk 0 (.tk 1 (.tk 2 (.tk 3 (.tk 4 (.tk 5 (.tk 6 (.or true 7 (.fin) (.nil))))))))) (by kernel_rfl) (by kernel_rfl) [] (dn _ _ _ (PH.le_refl _)) ?_
  simp -dsimp -implicitDefEqProofs (disch := first|with_reducible assumption|omega) [go_sem, pnR_int bx]
  refine xcallI (penR_int bx) ?_
  refine iint_r hx s5 (by decide) (mc_g28 _ _ _ _ _ _ _ _ _ _) ?_
  rw [mc_s28]
  have s6 := ((cod_31 hz).pos q5.2 s5).1
  obtain ⟨q6, e6⟩ : ∃ q, q = i31 xs q5.2 := ⟨_, rfl⟩
  rw [← e6] at s6 ⊢
  refine xkp (dn _ _ _ (PH.le_refl _)) ?_
  first | simp -dsimp -implicitDefEqProofs (disch := first|with_reducible assumption|omega) [go_sem] | skip
  refine xanyl (.tk 0 (.tk 1 (.tk 2 (.tk 3 (.tk 4 (.tk 5 (.tk 6 (.or true 7 (.fin) (.nil))))))))) (by kernel_rfl) (by kernel_rfl) [] (dn _ _ _ (PH.le_refl _)) ?_
  simp -dsimp -implicitDefEqProofs (disch := first|with_reducible assumption|omega) [go_sem, pnR_int bx]
  refine xcallI (penR_int bx) ?_
  refine iint_r hx s6 (by decide) (mc_g29 _ _ _ _ _ _ _ _ _ _) ?_
  rw [mc_s29]
  have s7 := ((cod_31 hz).pos q6.2 s6).1
  obtain ⟨q7, e7⟩ : ∃ q, q = i31 xs q6.2 := ⟨_, rfl⟩
  rw [← e7] at s7 ⊢
  refine xkp (dn _ _ _ (PH.le_refl _)) ?_
  first | simp -dsimp -implicitDefEqProofs (disch := first|with_reducible assumption|omega) [go_sem] | skip
  refine xanyl (.tk 0 (.tk 1 (.tk 2 (.tk 3 (.tk 4 (.tk 5 (.tk 6 (.or true 7 (.fin) (.nil))))))))) (by kernel_rfl) (by kernel_rfl) [] (dn _ _ _ (PH.le_refl _)) ?_
  simp -dsimp -implicitDefEqProofs (disch := first|with_reducible assumption|omega) [go_sem, pnR_int bx]
  refine xcallI (penR_int bx) ?_
  refine iint_r hx s7 (by decide) (mc_g30 _ _ _ _ _ _ _ _ _ _) ?_
  rw [mc_s30]
  have s8 := ((cod_31 hz).pos q7.2 s7).1
  obtain ⟨q8, e8⟩ : ∃ q, q = i31 xs q7.2 := ⟨_, rfl⟩
  rw [← e8] at s8 ⊢
  refine xkp (dn _ _ _ (PH.le_refl _)) ?_
  first | simp -dsimp -implicitDefEqProofs (disch := first|with_reducible assumption|omega) [go_sem] | skip
  refine xanyl (.tk 0 (.tk 1 (.tk 2 (.tk 3 (.tk 4 (.tk 5 (.tk 6 (.or true 7 (.fin) (.nil))))))))) (by kernel_rfl) (by kernel_rfl) [] (dn _ _ _ (PH.le_refl _)) ?_
  simp -dsimp -implicitDefEqProofs (disch := first|with_reducible assumption|omega) [go_sem, pnR_raw bx]
  refine xcallI (penR_raw bx) ?_
  refine iraw_r hx s8 (by decide) (mc_g31 _ _ _ _ _ _ _ _ _ _) fun gy wgy lgy igy => ?_
  rw [mc_s31]
  have s9 := ((cod_raw hz).pos q8.2 s8).1
  obtain ⟨q9, e9⟩ : ∃ q, q = iR xs q8.2 := ⟨_, rfl⟩
  rw [← e9] at s9 igy ⊢
  refine xkp (dn _ _ _ lgy) ?_
  first | simp -dsimp -implicitDefEqProofs (disch := first|with_reducible assumption|omega) [go_sem] | skip
  refine xanyl (.tk 0 (.tk 1 (.tk 2 (.tk 3 (.tk 4 (.tk 5 (.tk 6 (.or true 7 (.fin) (.nil))))))))) (by kernel_rfl) (by kernel_rfl) [] (dn _ _ _ (PH.le_refl _)) ?_
  simp -dsimp -implicitDefEqProofs (disch := first|with_reducible assumption|omega) [go_sem, pnR_raw bx]
  refine xcallI (penR_raw bx) ?_
  refine iraw_r (hx.up lgy) s9 (by decide) (mc_g32 _ _ _ _ _ _ _ _ _ _) fun gn wgn lgn ign => ?_
  rw [mc_s32]
  have s10 := ((cod_raw hz).pos q9.2 s9).1
  obtain ⟨q10, e10⟩ : ∃ q, q = iR xs q9.2 := ⟨_, rfl⟩
  rw [← e10] at s10 ign ⊢
  refine xkp (dn _ _ _ lgn) ?_
  first | simp -dsimp -implicitDefEqProofs (disch := first|with_reducible assumption|omega) [go_sem] | skip
  have e : rdMot xs r = (⟨q1.1, q2.1, q3.1, q4.1, q5.1, q6.1, q7.1, q8.1, q9.1, q10.1⟩, q10.2) := by
   have e3' : iPw xs q2.1 q2.2 = q3 := by rw [iPw, if_neg c1, e3]
   simp only [rdMot, mp, sq, ← e1, ← e2, e3', ← e4, ← e5, ← e6, ← e7, ← e8, ← e9, ← e10]
  rw [e] at hk
  subst e3
  exact fin_here (hk gn wgy wgn (lgy.trans lgn) (igy.up lgn) ign)
theorem cl7_r {bx br b2 bt : Nat} {v : Value} {xs : List Int} {r : RS} (hx : Ints h .u8 v xs) (hs : r.1.1 ≤ xs.length) (hp : penBr b2 bx ∈ L)
  (hk : ∀ h' wy wn, PH.le h h' → Ints h' .u8 wy (rdMot xs r).1.yes → Ints h' .u8 wn (rdMot xs r).1.no → K (.tuple #[]) (irO bx br v (rdMot xs r).2 (⟨bt, 111, motC (wy, wn, (rdMot xs r).1), 33⟩ :: L)) h') :
  Spec Tryz.prog 104 [.pointer (some ⟨bt, 0, none⟩), .pointer (some ⟨b2, 0, none⟩)] (irO bx br v r (⟨bt, 111, motC zeroQM, 33⟩ :: L)) h K := by
 have hpl : ∀ (e1 e2 e3 : Blk), penBr b2 bx ∈ e1 :: e2 :: e3 :: L := fun _ _ _ => List.mem_cons_of_mem _ (List.mem_cons_of_mem _ (List.mem_cons_of_mem _ hp))
 refine x_enterA Tryz.func104 rfl (rs := []) rfl rfl mixed (by kernel_rfl) rfl rfl fun ap nd => ?_
 have hb2 : h b2 = noC := Ap.mem' (L := irO bx br v r (⟨bt, 111, motC zeroQM, 33⟩ :: L)) ap _ (hpl _ _ _)
 have fm := xFind_mem (i := 0) (by decide) nd (hpl _ _ _) rfl
 clear ap nd
 simp -dsimp -implicitDefEqProofs (disch := first|with_reducible assumption|omega) [go_sem, fm]
 refine imot_r hx hs fun h1 wy wn le1 i1 i2 => ?_
 first | simp -dsimp -implicitDefEqProofs (disch := first|with_reducible assumption|omega) [go_sem] | skip
 exact fin_here (hk h1 wy wn le1 i1 i2)
end Go.X

/- Lists of byte strings in known cells; the contracts of feed.Cut, of the document's Cut, and of Lists. Conditions: the values read as bytes; sizes as each says. -/
import Derived.Test.YtfilkbfkhdaakaaGreatRA
import Derived.Test.YtfilkbfkhdaakaaGreatRS
set_option linter.unusedVariables false
set_option linter.unusedSimpArgs false
namespace Go.X
open Go.RowKit Go.Proofs Go.Bl
variable {L : Own} {h : PH} {K : PK}
theorem chunk_ok {id : Int} {text : List Int} {z i : Nat} (hid : 0 ≤ id ∧ id ≤ 18446744073709551615) (hl : text.length ≤ 131072) (hz : 1 ≤ z) (hz2 : z ≤ 4096) (hi : i < allN text.length z) : ChOk (chunkAt id text z i) := by
  have h1 := allN_le (len := text.length) hz
  have h2 := piece_len text z i
  refine ⟨hid, ⟨?_, ?_⟩, ⟨?_, ?_⟩, ⟨?_, ?_⟩, ?_⟩ <;> simp only [chunkAt] <;> omega
theorem piece_ints {h : PH} {a : Option Addr} {n c : Nat} {text : List Int} (hx : Ints h .u8 (.slice a n c) text) {z i m : Nat} (hm : m = i * z) (hi : m ≤ text.length) :
    Ints h .u8 (.slice (cutA a c m 1) (min (m + z) text.length - m) (c - m)) (piece text z i) := by
  subst hm
  exact hx.part (i * z) (min (i * z + z) text.length) (by omega) (by omega)
theorem cutF_take (id : Int) (text : List Int) (z k : Nat) (hk : k < allN text.length z) : (cutF id text z).take (k + 1) = (cutF id text z).take k ++ [formC (chunkAt id text z k)] := by
  rw [List.take_succ_eq_append_getElem (by rw [cutF_len]; exact hk)]
  simp [cutF]
set_option maxHeartbeats 4000000 in
set_option maxRecDepth 20000 in
theorem fcut_ok {text : List Int} (id : Int) (v : Value) (z : Nat) (hid : 0 ≤ id ∧ id ≤ 18446744073709551615) (hx0 : Ints h .u8 v text) (hl : text.length ≤ 131072) (hz : 1 ≤ z) (hz2 : z ≤ 4096)
    (hk : ∀ h' r q, PH.le h h' → Strs h' r q → xsL q = cutF id text z → K (.tuple #[r, .int .i64 0]) L h') : Spec Tryz.prog 159 [.int .u64 id, v, .int .i64 z] L h K := by
  have ox := hx0.open
  obtain ⟨xa, xc, rfl, hxc, hxl, _⟩ := ox
  have ha := allN_le (len := text.length) hz
  have ha0 := allN_pos text.length z
  obtain ⟨dN, hdN⟩ : ∃ d, d = (text.length + z - 1) / z := ⟨_, rfl⟩
  have hall : allN text.length z = max 1 dN := by rw [hdN]; rfl
  have ediv : ((text.length : Int) + (z : Int) - 1) / (z : Int) = (dN : Int) := by
    rw [show ((text.length : Int) + (z : Int) - 1) = ((text.length + z - 1 : Nat) : Int) by omega, hdN, Int.natCast_ediv]
  have emax : max 1 (dN : Int) = (allN text.length z : Int) := by rw [hall]; omega
  have emax2 : (if 1 ≤ (dN : Int) then (dN : Int) else 1) = (allN text.length z : Int) := by rw [hall]; split <;> omega
  refine x_enter Tryz.func159 rfl (rs := [_, _]) rfl rfl mixed (by kernel_rfl) rfl rfl ?_
  simp -dsimp -implicitDefEqProofs (disch := first | with_reducible assumption | omega) [go_sem, ediv, xBuiltin_max, emax, emax2]
  refine xnew fun b8 n_b8 h_b8 => ?_
  try simp only [Apart] at n_b8
  simp -dsimp -implicitDefEqProofs (disch := first | with_reducible assumption | omega) [go_sem]
  refine xloop (γ := Nat × Option (Nat × Nat) × List QS × PH) (0, none, [], h)
    (fun s => s.1 ≤ allN text.length z ∧ s.2.2.1.length = s.1 ∧ okO s.2.1 s.1 ∧ apO s.2.1 (⟨b8, 114, [.int .u64 id, .int .i64 (allN text.length z), .int .i64 text.length], 3⟩ :: L) s.2.2.2 ∧ s.2.2.2 b8 = noC ∧ PH.le h s.2.2.2 ∧ (∀ p ∈ s.2.2.1, Ints s.2.2.2 .u8 p.1 p.2) ∧ xsL s.2.2.1 = (cutF id text z).take s.1)
    (fun s => [(39, .int .i64 s.1), (38, .int .i64 (allN text.length z)), (9, ovs s.2.1 s.1), (8, .pointer (some ⟨b8, 0, none⟩)), (2, .int .i64 z), (1, .slice xa text.length xc)])
    (fun s => oent 31 1 s.2.1 (vsL s.2.2.1) (⟨b8, 114, [.int .u64 id, .int .i64 (allN text.length z), .int .i64 text.length], 3⟩ :: L)) (fun s => s.2.2.2) (fun s => allN text.length z - s.1) ?_ ?_ ?_ ?_
  · exact ⟨Nat.zero_le _, rfl, rfl, trivial, h_b8, PH.le_refl _, (fun p hp => by cases hp), rfl⟩
  · simp [Ent, List.lookup, xEnv, ovs]
  · exact Drop.refl _ _
  rintro ⟨k, o, q, hh⟩ ⟨i1, i2, i3, i4, i5, i6, i7, i8⟩
  simp only at i1 i2 i3 i4 i5 i6 i7 i8 ⊢
  by_cases c1 : k < allN text.length z
  · have hin := piece_in c1 hz
    obtain ⟨m, hm⟩ : ∃ m, m = k * z := ⟨_, rfl⟩
    rw [← hm] at hin
    have em : (k : Int) * (z : Int) = (m : Int) := by rw [hm, Int.natCast_mul]
    simp -dsimp -implicitDefEqProofs (disch := first | with_reducible assumption | omega) [go_sem]
    rw [em]
    have mb : apB o b8 := i4.head
    refine xanyl (.tk 1 (.tk 2 (.tk 3 (.tk 4 (.tk 5 (.tk 6 (.tk 7 (.tk 8 (.tkl 0 (.or true 9 (.tk 10 (.tk 11 (.or true 12 (.tk 13 (.tk 14 (.tk 15 (.tk 16 (.tk 17 (.fin)))))) (.nil)))) (.nil))))))))))) (by kernel_rfl) (by kernel_rfl) _ (Drop.refl _ _) ?_
    simp -dsimp -implicitDefEqProofs (disch := first | with_reducible assumption | omega) [go_sem, xFind_oent mb]
    have emin : (min ((m : Int) + (z : Int)) (text.length : Int)).toNat = min (m + z) text.length := by omega
    rw [emin]
    have hxk := hx0.up i6
    refine Spec.apn (fform_any (c := chunkAt id text z k) _ (piece_ints hxk hm hin) (chunk_ok hid hl hz hz2 c1) fun h4 r le4 hr4 ap nd => ?_)
    have hr4' := hr4
    have or4 := hr4.open
    obtain ⟨x4, y4, rfl, _⟩ := or4
    have ap2 := ap.oent
    obtain ⟨u8, _⟩ := ap2
    simp -dsimp -implicitDefEqProofs (disch := first | with_reducible assumption | omega) [go_sem]
    refine xkp (Drop.forget le4) ?_
    simp -dsimp -implicitDefEqProofs (disch := first | with_reducible assumption | omega) [go_sem]
    refine xnew fun b9 n_b9 h_b9 => ?_
    try simp only [Apart] at n_b9
    simp -dsimp -implicitDefEqProofs (disch := first | with_reducible assumption | omega) [go_sem]
    refine xappend (t := 32) (e := 31) (sz := 1) (bytes := 24) (by kernel_rfl) tI_31 rfl rfl rfl rfl (by decide) [_] _ o k (vsL q) i3 (by simp [vsL, i2]) (Src.own List.mem_cons_self) (m := 1) (news := [.slice x4 (formC (chunkAt id text z k)).length y4]) rfl (by intro u hu; simp only [List.mem_singleton] at hu; subst hu; rfl) (by simp [maxLen]; omega) (by omega) ?_
    intro o' j1 j2 j3
    simp -dsimp -implicitDefEqProofs (disch := first | with_reducible assumption | omega) [go_sem]
    refine ⟨k + 1, o', q ++ [(.slice x4 (formC (chunkAt id text z k)).length y4, formC (chunkAt id text z k))], h4, ⟨by omega, by simp [i2], j1, apO_tail j2, u8, i6.trans le4, fun qa qb hq => ?_, ?_⟩, by omega, by simp [Ent, List.lookup], ?_⟩
    · have hq : (qa, qb) ∈ q ++ [(.slice x4 (formC (chunkAt id text z k)).length y4, formC (chunkAt id text z k))] := by simpa using hq
      rcases List.mem_append.1 hq with hq | hq
      · exact (i7 (qa, qb) hq).up le4
      · have := List.mem_singleton.1 hq
        injection this with e1 e2
        subst e1; subst e2
        exact hr4'
    · rw [cutF_take _ _ _ _ c1, ← i8]
      simp [xsL]
    · simp only [vsL, List.map_append, List.map_cons, List.map_nil]
      exact Drop.tail _ _ _
  · have hkl : k = allN text.length z := by omega
    subst hkl
    rw [← cutF_len id text z, List.take_length] at i8
    simp -dsimp -implicitDefEqProofs (disch := first | with_reducible assumption | omega) [go_sem]
    rw [← i2] at i3 ⊢
    exact fin_pub (n := q.length) i3 (by simp [vsL]) (by omega) i4 fun h' le sl => fin_tail (fin_here (hk h' _ q (i6.trans le) (strs_pub sl fun p hp => (i7 p hp).up le) i8))
end Go.X

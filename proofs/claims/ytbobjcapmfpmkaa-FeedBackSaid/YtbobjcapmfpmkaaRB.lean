/- Lists of byte strings in known cells; the contracts of feed.Cut, of the document's Cut, and of Lists. Conditions: the values read as bytes; sizes as each says. -/
import Derived.Test.YtbobjcapmfpmkaaRA
set_option linter.unusedVariables false
set_option linter.unusedSimpArgs false
namespace Go.X
open Go.RowKit Go.Proofs Go.Bl
variable {L : Own} {h : PH} {K : PK}
abbrev QS := Value × List Int
def gs (q : List QS) (i : Nat) : QS := q.getD i (.slice none 0 0, [])
def vsL (q : List QS) : List Value := q.map Prod.fst
def xsL (q : List QS) : List (List Int) := q.map Prod.snd
theorem gs_lt {l : List QS} {i : Nat} (hi : i < l.length) : gs l i = l[i] := by simp [gs, List.getD, hi]
theorem xsL_len (q : List QS) : (xsL q).length = q.length := by simp [xsL]
theorem vsL_len (q : List QS) : (vsL q).length = q.length := by simp [vsL]
/-- slice value v reads as these byte strings -/
structure Strs (h : PH) (v : Value) (q : List QS) : Prop where
  s : Sl h v q.length 1 (vsL q)
  d : ∀ p ∈ q, Ints h .u8 p.1 p.2
theorem Strs.up {h h' : PH} (le : PH.le h h') {v : Value} {l : List QS} (hd : Strs h v l) : Strs h' v l := ⟨hd.s.up le, fun q hq => (hd.d q hq).up le⟩
theorem Strs.at {h : PH} {v : Value} {l : List QS} (hd : Strs h v l) {i : Nat} (hi : i < l.length) : Ints h .u8 (gs l i).1 (gs l i).2 := by
  rw [gs_lt hi]; exact hd.d _ (List.getElem_mem hi)
theorem Strs.open {h : PH} {v : Value} {l : List QS} (hd : Strs h v l) :
    ∃ a cap, v = .slice a l.length cap ∧ l.length ≤ cap ∧ l.length ≤ 9223372036854775807 ∧ (a = none → cap = 0) ∧ (∀ j, j < l.length → elemCell h a j = some (gs l j).1) ∧ Strs h (.slice a l.length cap) l := by
  obtain ⟨h1, a, cap, rfl, h3, h4, h4', h5, h6⟩ := hd.s
  exact ⟨a, cap, rfl, h3, h4', h5, fun j hj => h6 j _ (by rw [gs_lt hj]; simp [vsL, hj]), hd⟩
theorem xsL_at {l : List QS} {i : Nat} (hi : i < l.length) : (xsL l)[i]? = some (gs l i).2 := by rw [gs_lt hi]; simp [xsL, hi]
theorem apO_next {o : Option (Nat × Nat)} {e sz : Nat} {xs : List Value} {L : Own} {h h' : PH} (ha : apO o L h) (ap : Ap (oent e sz o xs L) h') : apO o L h' := by
  cases o with
  | none => trivial
  | some p => exact ⟨ha.1, ap.1⟩
theorem Ap.oent {o : Option (Nat × Nat)} {e sz : Nat} {xs : List Value} {L : Own} {h : PH} (ap : Ap (oent e sz o xs L) h) : Ap L h := by
  cases o with
  | none => exact ap
  | some p => exact ap.2
set_option maxRecDepth 20000 in
theorem lists_any {l1 l2 : List QS} (v u : Value) (h1 : Strs h v l1) (h2 : Strs h u l2) (he : xsL l1 = xsL l2) (hk : K (.bool true) L h) : Spec Try.prog 34 [v, u] L h K := by
  obtain ⟨a, c, rfl, hc, hl, _, hcx, hd⟩ := h1.open
  obtain ⟨b, c', rfl, hc', hl', _, hcy, hd'⟩ := h2.open
  have hlen : l1.length = l2.length := by rw [← xsL_len l1, ← xsL_len l2, he]
  refine x_enter Try.func34 rfl (rs := [_]) rfl rfl mixed (by kernel_rfl) rfl rfl ?_
  simp -dsimp -implicitDefEqProofs (disch := first | with_reducible assumption | omega) [go_sem]
  refine xloop' (0 : Nat) (fun k => k ≤ l1.length) (fun k => [(14, .int .i64 k), (13, .int .i64 l1.length), (12, .slice a l1.length c), (1, .slice b l2.length c')]) (fun k => l1.length - k) ?_ ?_ ?_
  · exact Nat.zero_le _
  · simp [Ent, List.lookup, xEnv]
  rintro k k1
  by_cases c1 : k < l1.length
  · have hi := hd.at c1
    have hi' := hd'.at (i := k) (by omega)
    have hg : (gs l2 k).2 = (gs l1 k).2 := by
      have e1 := xsL_at c1
      rw [he, xsL_at (by omega)] at e1
      exact Option.some.inj e1
    rw [hg] at hi'
    simp -dsimp -implicitDefEqProofs (disch := first | with_reducible assumption | omega) [go_sem, idx hcx, idx hcy]
    refine same8 _ _ hi hi' ?_
    rw [decide_eq_true rfl]
    simp -dsimp -implicitDefEqProofs (disch := first | with_reducible assumption | omega) [go_sem]
    exact ⟨k + 1, by omega, by omega, by simp [Ent, List.lookup], Drop.refl _ _⟩
  · simp -dsimp -implicitDefEqProofs (disch := first | with_reducible assumption | omega) [go_sem]
    exact fin_here hk
theorem chunk_ok {id : Int} {text : List Int} {z i : Nat} (hid : 0 ≤ id ∧ id ≤ 18446744073709551615) (hl : text.length ≤ 131072) (hz : 1 ≤ z) (hz2 : z ≤ 4096) (hi : i < allN text.length z) : ChOk (chunkAt id text z i) := by
  have h1 := allN_le (len := text.length) hz
  have h2 := piece_len text z i
  refine ⟨hid, ⟨?_, ?_⟩, ⟨?_, ?_⟩, ⟨?_, ?_⟩, ?_⟩ <;> simp only [chunkAt] <;> omega
theorem piece_ints {h : PH} {a : Option Addr} {n c : Nat} {text : List Int} (hx : Ints h .u8 (.slice a n c) text) {z i m : Nat} (hm : m = i * z) (hi : m ≤ text.length) :
    Ints h .u8 (.slice (cutA a c m 1) (min (m + z) text.length - m) (c - m)) (piece text z i) := by
  subst hm
  exact hx.part (i * z) (min (i * z + z) text.length) (by omega) (by omega)
theorem cutF_take (id : Int) (text : List Int) (z k : Nat) (hk : k < allN text.length z) : (cutF id text z).take (k + 1) = (cutF id text z).take k ++ [formC (chunkAt id text z k)] := by
  rw [List.take_succ_eq_append_getElem (by rw [cutF_len]; exact hk)]
  simp [cutF]
theorem strs_pub {h : PH} {o : Option (Nat × Nat)} {q : List QS} (sl : Sl h (ovs o q.length) q.length 1 (vsL q)) (hd : ∀ p ∈ q, Ints h .u8 p.1 p.2) : Strs h (ovs o q.length) q := ⟨sl, hd⟩
set_option maxHeartbeats 4000000 in
set_option maxRecDepth 20000 in
theorem fcut_ok {text : List Int} (id : Int) (v : Value) (z : Nat) (hid : 0 ≤ id ∧ id ≤ 18446744073709551615) (hx0 : Ints h .u8 v text) (hl : text.length ≤ 131072) (hz : 1 ≤ z) (hz2 : z ≤ 4096)
    (hk : ∀ h' r q, PH.le h h' → Strs h' r q → xsL q = cutF id text z → K (.tuple #[r, .int .i64 0]) L h') : Spec Try.prog 33 [.int .u64 id, v, .int .i64 z] L h K := by
  have ox := hx0.open
  obtain ⟨xa, xc, rfl, hxc, hxl, _⟩ := ox
  have ha := allN_le (len := text.length) hz
  have ha0 := allN_pos text.length z
  obtain ⟨dN, hdN⟩ : ∃ d, d = (text.length + z - 1) / z := ⟨_, rfl⟩
  have hall : allN text.length z = max 1 dN := by rw [hdN]; rfl
  have ediv : ((text.length : Int) + (z : Int) - 1) / (z : Int) = (dN : Int) := by
    rw [show ((text.length : Int) + (z : Int) - 1) = ((text.length + z - 1 : Nat) : Int) by omega, hdN, Int.natCast_ediv]
  have emax : max 1 (dN : Int) = (allN text.length z : Int) := by rw [hall]; omega
  have emax2 : (if 1 ≤ (dN : Int) then (dN : Int) else 1) = (allN text.length z : Int) := by rw [hall]; split <;> omega
  refine x_enter Try.func33 rfl (rs := [_, _]) rfl rfl mixed (by kernel_rfl) rfl rfl ?_
  simp -dsimp -implicitDefEqProofs (disch := first | with_reducible assumption | omega) [go_sem, ediv, xBuiltin_max, emax, emax2]
  refine xnew fun b8 n_b8 h_b8 => ?_
  try simp only [Apart] at n_b8
  simp -dsimp -implicitDefEqProofs (disch := first | with_reducible assumption | omega) [go_sem]
  refine xloop (γ := Nat × Option (Nat × Nat) × List QS × PH) (0, none, [], h)
    (fun s => s.1 ≤ allN text.length z ∧ s.2.2.1.length = s.1 ∧ okO s.2.1 s.1 ∧ apO s.2.1 (⟨b8, 133, [.int .u64 id, .int .i64 (allN text.length z), .int .i64 text.length], 3⟩ :: L) s.2.2.2 ∧ s.2.2.2 b8 = noC ∧ PH.le h s.2.2.2 ∧ (∀ p ∈ s.2.2.1, Ints s.2.2.2 .u8 p.1 p.2) ∧ xsL s.2.2.1 = (cutF id text z).take s.1)
    (fun s => [(39, .int .i64 s.1), (38, .int .i64 (allN text.length z)), (9, ovs s.2.1 s.1), (8, .pointer (some ⟨b8, 0, none⟩)), (2, .int .i64 z), (1, .slice xa text.length xc)])
    (fun s => oent 23 1 s.2.1 (vsL s.2.2.1) (⟨b8, 133, [.int .u64 id, .int .i64 (allN text.length z), .int .i64 text.length], 3⟩ :: L)) (fun s => s.2.2.2) (fun s => allN text.length z - s.1) ?_ ?_ ?_ ?_
  · exact ⟨Nat.zero_le _, rfl, rfl, trivial, h_b8, PH.le_refl _, (fun p hp => by cases hp), rfl⟩
  · simp [Ent, List.lookup, xEnv, ovs]
  · exact Drop.refl _ _
  rintro ⟨k, o, q, hh⟩ ⟨i1, i2, i3, i4, i5, i6, i7, i8⟩
  simp only at i1 i2 i3 i4 i5 i6 i7 i8 ⊢
  by_cases c1 : k < allN text.length z
  · have hin := piece_in c1 hz
    obtain ⟨m, hm⟩ : ∃ m, m = k * z := ⟨_, rfl⟩
    rw [← hm] at hin
    have em : (k : Int) * (z : Int) = (m : Int) := by rw [hm, Int.natCast_mul]
    simp -dsimp -implicitDefEqProofs (disch := first | with_reducible assumption | omega) [go_sem]
    rw [em]
    have mb : apB o b8 := i4.head
    refine xanyl (.tk 1 (.tk 2 (.tk 3 (.tk 4 (.tk 5 (.tk 6 (.tk 7 (.tk 8 (.tkl 0 (.or true 9 (.tk 10 (.tk 11 (.or true 12 (.tk 13 (.tk 14 (.tk 15 (.tk 16 (.tk 17 (.fin)))))) (.nil)))) (.nil))))))))))) (by kernel_rfl) (by kernel_rfl) _ (Drop.refl _ _) ?_
    simp -dsimp -implicitDefEqProofs (disch := first | with_reducible assumption | omega) [go_sem, xFind_oent mb]
    have emin : (min ((m : Int) + (z : Int)) (text.length : Int)).toNat = min (m + z) text.length := by omega
    rw [emin]
    have hxk := hx0.up i6
    refine Spec.apn (fform_any (c := chunkAt id text z k) _ (piece_ints hxk hm hin) (chunk_ok hid hl hz hz2 c1) fun h4 r le4 hr4 ap nd => ?_)
    have hr4' := hr4
    have or4 := hr4.open
    obtain ⟨x4, y4, rfl, _⟩ := or4
    have ap2 := ap.oent
    obtain ⟨u8, _⟩ := ap2
    simp -dsimp -implicitDefEqProofs (disch := first | with_reducible assumption | omega) [go_sem]
    refine xkp (Drop.forget le4) ?_
    simp -dsimp -implicitDefEqProofs (disch := first | with_reducible assumption | omega) [go_sem]
    refine xnew fun b9 n_b9 h_b9 => ?_
    try simp only [Apart] at n_b9
    simp -dsimp -implicitDefEqProofs (disch := first | with_reducible assumption | omega) [go_sem]
    refine xappend (t := 53) (e := 23) (sz := 1) (bytes := 24) (by kernel_rfl) tI_23 rfl rfl rfl rfl (by decide) [_] _ o k (vsL q) i3 (by simp [vsL, i2]) (Src.own List.mem_cons_self) (m := 1) (news := [.slice x4 (formC (chunkAt id text z k)).length y4]) rfl (by intro u hu; simp only [List.mem_singleton] at hu; subst hu; rfl) (by simp [maxLen]; omega) (by omega) ?_
    intro o' j1 j2 j3
    simp -dsimp -implicitDefEqProofs (disch := first | with_reducible assumption | omega) [go_sem]
    refine ⟨k + 1, o', q ++ [(.slice x4 (formC (chunkAt id text z k)).length y4, formC (chunkAt id text z k))], h4, ⟨by omega, by simp [i2], j1, apO_tail j2, u8, i6.trans le4, fun qa qb hq => ?_, ?_⟩, by omega, by simp [Ent, List.lookup], ?_⟩
    · have hq : (qa, qb) ∈ q ++ [(.slice x4 (formC (chunkAt id text z k)).length y4, formC (chunkAt id text z k))] := by simpa using hq
      rcases List.mem_append.1 hq with hq | hq
      · exact (i7 (qa, qb) hq).up le4
      · have := List.mem_singleton.1 hq
        injection this with e1 e2
        subst e1; subst e2
        exact hr4'
    · rw [cutF_take _ _ _ _ c1, ← i8]
      simp [xsL]
    · simp only [vsL, List.map_append, List.map_cons, List.map_nil]
      exact Drop.tail _ _ _
  · have hkl : k = allN text.length z := by omega
    subst hkl
    rw [← cutF_len id text z, List.take_length] at i8
    simp -dsimp -implicitDefEqProofs (disch := first | with_reducible assumption | omega) [go_sem]
    rw [← i2] at i3 ⊢
    exact fin_pub (n := q.length) i3 (by simp [vsL]) (by omega) i4 fun h' le sl => fin_tail (fin_here (hk h' _ q (i6.trans le) (strs_pub sl fun p hp => (i7 p hp).up le) i8))
set_option maxHeartbeats 4000000 in
set_option maxRecDepth 20000 in
theorem rcut_ok {text : List Int} (id : Int) (v : Value) (z : Nat) (hid : 0 ≤ id ∧ id ≤ 18446744073709551615) (hx0 : Ints h .u8 v text) (hl : text.length ≤ 131072) (hz : 1 ≤ z) (hz2 : z ≤ 4096)
    (hk : ∀ h' r q, PH.le h h' → Strs h' r q → xsL q = cutF id text z → K r L h') : Spec Try.prog 35 [.int .u64 id, v, .int .i64 z] L h K := by
  have ox := hx0.open
  obtain ⟨xa, xc, rfl, hxc, hxl, _⟩ := ox
  have ha := allN_le (len := text.length) hz
  have ha0 := allN_pos text.length z
  have hall := allN_ref (len := text.length) hz
  obtain ⟨dN, hdN⟩ : ∃ d, d = text.length / z := ⟨_, rfl⟩
  obtain ⟨rN, hrN⟩ : ∃ d, d = text.length % z := ⟨_, rfl⟩
  have hdl : dN ≤ text.length := by rw [hdN]; exact Nat.div_le_self _ _
  rw [← hdN, ← hrN] at hall
  have ediv : (text.length : Int) / (z : Int) = (dN : Int) := by rw [hdN, Int.natCast_ediv]
  have ediv2 : (text.length : Int).tdiv (z : Int) = (dN : Int) := by rw [hdN, Int.ofNat_tdiv]
  have emod : (text.length : Int) % (z : Int) = (rN : Int) := by rw [hrN, Int.natCast_emod]
  have emod2 : (text.length : Int).tmod (z : Int) = (rN : Int) := by rw [hrN, Int.ofNat_tmod]
  refine x_enter Try.func35 rfl (rs := [_]) rfl rfl mixed (by kernel_rfl) rfl rfl ?_
  simp -dsimp -implicitDefEqProofs (disch := first | with_reducible assumption | omega) [go_sem, ediv, ediv2, emod, emod2]
  by_cases cr : 0 < rN
  · have ha7 : dN + 1 = allN text.length z := by rw [hall, if_pos (Or.inl cr)]
    simp -dsimp -implicitDefEqProofs (disch := first | with_reducible assumption | omega) [go_sem, ediv, ediv2, emod, emod2]
    refine xloop (γ := Nat × Option (Nat × Nat) × List QS × PH) (0, none, [], h)
      (fun s => s.1 ≤ allN text.length z ∧ s.2.2.1.length = s.1 ∧ okO s.2.1 s.1 ∧ apO s.2.1 L s.2.2.2 ∧ PH.le h s.2.2.2 ∧ (∀ p ∈ s.2.2.1, Ints s.2.2.2 .u8 p.1 p.2) ∧ xsL s.2.2.1 = (cutF id text z).take s.1)
      (fun s => [(9, .int .i64 s.1), (7, .int .i64 (allN text.length z)), (8, ovs s.2.1 s.1), (2, .int .i64 z), (0, .int .u64 id), (1, .slice xa text.length xc)])
      (fun s => oent 23 1 s.2.1 (vsL s.2.2.1) L) (fun s => s.2.2.2) (fun s => allN text.length z - s.1) ?_ ?_ ?_ ?_
    · exact ⟨Nat.zero_le _, rfl, rfl, trivial, PH.le_refl _, (fun p hp => by cases hp), rfl⟩
    · simp [Ent, List.lookup, xEnv, ovs, ← ha7]
    · exact Drop.refl _ _
    rintro ⟨k, o, q, hh⟩ ⟨i1, i2, i3, i4, i6, i7, i8⟩
    simp only at i1 i2 i3 i4 i6 i7 i8 ⊢
    by_cases c1 : k < allN text.length z
    · have hin := piece_in c1 hz
      obtain ⟨m, hm⟩ : ∃ m, m = k * z := ⟨_, rfl⟩
      rw [← hm] at hin
      have em : (k : Int) * (z : Int) = (m : Int) := by rw [hm, Int.natCast_mul]
      have em2 : ((k : Int) + 1) * (z : Int) = (m : Int) + (z : Int) := by rw [Int.add_mul, em, Int.one_mul]
      simp -dsimp -implicitDefEqProofs (disch := first | with_reducible assumption | omega) [go_sem, em, em2]
      have emin : (min (text.length : Int) ((m : Int) + (z : Int))).toNat = min (m + z) text.length := by omega
      rw [emin]
      have hxk := hx0.up i6
      refine Spec.apn (rform37_any (c := chunkAt id text z k) _ (piece_ints hxk hm hin) (chunk_ok hid hl hz hz2 c1) fun h4 r le4 hr4 ap nd => ?_)
      have hr4' := hr4
      have or4 := hr4.open
      obtain ⟨x4, y4, rfl, _⟩ := or4
      simp -dsimp -implicitDefEqProofs (disch := first | with_reducible assumption | omega) [go_sem]
      refine xnew fun b9 n_b9 h_b9 => ?_
      try simp only [Apart] at n_b9
      simp -dsimp -implicitDefEqProofs (disch := first | with_reducible assumption | omega) [go_sem]
      refine xappend (t := 53) (e := 23) (sz := 1) (bytes := 24) (by kernel_rfl) tI_23 rfl rfl rfl rfl (by decide) [_] _ o k (vsL q) i3 (by simp [vsL, i2]) (Src.own List.mem_cons_self) (m := 1) (news := [.slice x4 (formC (chunkAt id text z k)).length y4]) rfl (by intro u hu; simp only [List.mem_singleton] at hu; subst hu; rfl) (by simp [maxLen]; omega) (by omega) ?_
      intro o' j1 j2 j3
      simp -dsimp -implicitDefEqProofs (disch := first | with_reducible assumption | omega) [go_sem]
      refine ⟨k + 1, o', q ++ [(.slice x4 (formC (chunkAt id text z k)).length y4, formC (chunkAt id text z k))], h4, ⟨by omega, by simp [i2], j1, apO_tail j2, i6.trans le4, fun qa qb hq => ?_, ?_⟩, by omega, by simp [Ent, List.lookup], ?_⟩
      · have hq : (qa, qb) ∈ q ++ [(.slice x4 (formC (chunkAt id text z k)).length y4, formC (chunkAt id text z k))] := by simpa using hq
        rcases List.mem_append.1 hq with hq | hq
        · exact (i7 (qa, qb) hq).up le4
        · have := List.mem_singleton.1 hq
          injection this with e1 e2
          subst e1; subst e2
          exact hr4'
      · rw [cutF_take _ _ _ _ c1, ← i8]
        simp [xsL]
      · simp only [vsL, List.map_append, List.map_cons, List.map_nil]
        exact Drop.tail _ _ _
    · have hkl : k = allN text.length z := by omega
      subst hkl
      rw [← cutF_len id text z, List.take_length] at i8
      simp -dsimp -implicitDefEqProofs (disch := first | with_reducible assumption | omega) [go_sem]
      rw [← i2] at i3 ⊢
      exact fin_pub (n := q.length) i3 (by simp [vsL]) (by omega) i4 fun h' le sl => fin_here (hk h' _ q (i6.trans le) (strs_pub sl fun p hp => (i7 p hp).up le) i8)
  by_cases cd : dN = 0
  · have ha7 : dN + 1 = allN text.length z := by rw [hall, if_pos (Or.inr cd)]
    simp -dsimp -implicitDefEqProofs (disch := first | with_reducible assumption | omega) [go_sem, ediv, ediv2, emod, emod2]
    refine xloop (γ := Nat × Option (Nat × Nat) × List QS × PH) (0, none, [], h)
      (fun s => s.1 ≤ allN text.length z ∧ s.2.2.1.length = s.1 ∧ okO s.2.1 s.1 ∧ apO s.2.1 L s.2.2.2 ∧ PH.le h s.2.2.2 ∧ (∀ p ∈ s.2.2.1, Ints s.2.2.2 .u8 p.1 p.2) ∧ xsL s.2.2.1 = (cutF id text z).take s.1)
      (fun s => [(9, .int .i64 s.1), (7, .int .i64 (allN text.length z)), (8, ovs s.2.1 s.1), (2, .int .i64 z), (0, .int .u64 id), (1, .slice xa text.length xc)])
      (fun s => oent 23 1 s.2.1 (vsL s.2.2.1) L) (fun s => s.2.2.2) (fun s => allN text.length z - s.1) ?_ ?_ ?_ ?_
    · exact ⟨Nat.zero_le _, rfl, rfl, trivial, PH.le_refl _, (fun p hp => by cases hp), rfl⟩
    · simp [Ent, List.lookup, xEnv, ovs, ← ha7]
    · exact Drop.refl _ _
    rintro ⟨k, o, q, hh⟩ ⟨i1, i2, i3, i4, i6, i7, i8⟩
    simp only at i1 i2 i3 i4 i6 i7 i8 ⊢
    by_cases c1 : k < allN text.length z
    · have hin := piece_in c1 hz
      obtain ⟨m, hm⟩ : ∃ m, m = k * z := ⟨_, rfl⟩
      rw [← hm] at hin
      have em : (k : Int) * (z : Int) = (m : Int) := by rw [hm, Int.natCast_mul]
      have em2 : ((k : Int) + 1) * (z : Int) = (m : Int) + (z : Int) := by rw [Int.add_mul, em, Int.one_mul]
      simp -dsimp -implicitDefEqProofs (disch := first | with_reducible assumption | omega) [go_sem, em, em2]
      have emin : (min (text.length : Int) ((m : Int) + (z : Int))).toNat = min (m + z) text.length := by omega
      rw [emin]
      have hxk := hx0.up i6
      refine Spec.apn (rform37_any (c := chunkAt id text z k) _ (piece_ints hxk hm hin) (chunk_ok hid hl hz hz2 c1) fun h4 r le4 hr4 ap nd => ?_)
      have hr4' := hr4
      have or4 := hr4.open
      obtain ⟨x4, y4, rfl, _⟩ := or4
      simp -dsimp -implicitDefEqProofs (disch := first | with_reducible assumption | omega) [go_sem]
      refine xnew fun b9 n_b9 h_b9 => ?_
      try simp only [Apart] at n_b9
      simp -dsimp -implicitDefEqProofs (disch := first | with_reducible assumption | omega) [go_sem]
      refine xappend (t := 53) (e := 23) (sz := 1) (bytes := 24) (by kernel_rfl) tI_23 rfl rfl rfl rfl (by decide) [_] _ o k (vsL q) i3 (by simp [vsL, i2]) (Src.own List.mem_cons_self) (m := 1) (news := [.slice x4 (formC (chunkAt id text z k)).length y4]) rfl (by intro u hu; simp only [List.mem_singleton] at hu; subst hu; rfl) (by simp [maxLen]; omega) (by omega) ?_
      intro o' j1 j2 j3
      simp -dsimp -implicitDefEqProofs (disch := first | with_reducible assumption | omega) [go_sem]
      refine ⟨k + 1, o', q ++ [(.slice x4 (formC (chunkAt id text z k)).length y4, formC (chunkAt id text z k))], h4, ⟨by omega, by simp [i2], j1, apO_tail j2, i6.trans le4, fun qa qb hq => ?_, ?_⟩, by omega, by simp [Ent, List.lookup], ?_⟩
      · have hq : (qa, qb) ∈ q ++ [(.slice x4 (formC (chunkAt id text z k)).length y4, formC (chunkAt id text z k))] := by simpa using hq
        rcases List.mem_append.1 hq with hq | hq
        · exact (i7 (qa, qb) hq).up le4
        · have := List.mem_singleton.1 hq
          injection this with e1 e2
          subst e1; subst e2
          exact hr4'
      · rw [cutF_take _ _ _ _ c1, ← i8]
        simp [xsL]
      · simp only [vsL, List.map_append, List.map_cons, List.map_nil]
        exact Drop.tail _ _ _
    · have hkl : k = allN text.length z := by omega
      subst hkl
      rw [← cutF_len id text z, List.take_length] at i8
      simp -dsimp -implicitDefEqProofs (disch := first | with_reducible assumption | omega) [go_sem]
      rw [← i2] at i3 ⊢
      exact fin_pub (n := q.length) i3 (by simp [vsL]) (by omega) i4 fun h' le sl => fin_here (hk h' _ q (i6.trans le) (strs_pub sl fun p hp => (i7 p hp).up le) i8)
  · have ha7 : dN = allN text.length z := by rw [hall, if_neg (by omega)]
    simp -dsimp -implicitDefEqProofs (disch := first | with_reducible assumption | omega) [go_sem, ediv, ediv2, emod, emod2]
    refine xloop (γ := Nat × Option (Nat × Nat) × List QS × PH) (0, none, [], h)
      (fun s => s.1 ≤ allN text.length z ∧ s.2.2.1.length = s.1 ∧ okO s.2.1 s.1 ∧ apO s.2.1 L s.2.2.2 ∧ PH.le h s.2.2.2 ∧ (∀ p ∈ s.2.2.1, Ints s.2.2.2 .u8 p.1 p.2) ∧ xsL s.2.2.1 = (cutF id text z).take s.1)
      (fun s => [(9, .int .i64 s.1), (7, .int .i64 (allN text.length z)), (8, ovs s.2.1 s.1), (2, .int .i64 z), (0, .int .u64 id), (1, .slice xa text.length xc)])
      (fun s => oent 23 1 s.2.1 (vsL s.2.2.1) L) (fun s => s.2.2.2) (fun s => allN text.length z - s.1) ?_ ?_ ?_ ?_
    · exact ⟨Nat.zero_le _, rfl, rfl, trivial, PH.le_refl _, (fun p hp => by cases hp), rfl⟩
    · simp [Ent, List.lookup, xEnv, ovs, ← ha7]
    · exact Drop.refl _ _
    rintro ⟨k, o, q, hh⟩ ⟨i1, i2, i3, i4, i6, i7, i8⟩
    simp only at i1 i2 i3 i4 i6 i7 i8 ⊢
    by_cases c1 : k < allN text.length z
    · have hin := piece_in c1 hz
      obtain ⟨m, hm⟩ : ∃ m, m = k * z := ⟨_, rfl⟩
      rw [← hm] at hin
      have em : (k : Int) * (z : Int) = (m : Int) := by rw [hm, Int.natCast_mul]
      have em2 : ((k : Int) + 1) * (z : Int) = (m : Int) + (z : Int) := by rw [Int.add_mul, em, Int.one_mul]
      simp -dsimp -implicitDefEqProofs (disch := first | with_reducible assumption | omega) [go_sem, em, em2]
      have emin : (min (text.length : Int) ((m : Int) + (z : Int))).toNat = min (m + z) text.length := by omega
      rw [emin]
      have hxk := hx0.up i6
      refine Spec.apn (rform37_any (c := chunkAt id text z k) _ (piece_ints hxk hm hin) (chunk_ok hid hl hz hz2 c1) fun h4 r le4 hr4 ap nd => ?_)
      have hr4' := hr4
      have or4 := hr4.open
      obtain ⟨x4, y4, rfl, _⟩ := or4
      simp -dsimp -implicitDefEqProofs (disch := first | with_reducible assumption | omega) [go_sem]
      refine xnew fun b9 n_b9 h_b9 => ?_
      try simp only [Apart] at n_b9
      simp -dsimp -implicitDefEqProofs (disch := first | with_reducible assumption | omega) [go_sem]
      refine xappend (t := 53) (e := 23) (sz := 1) (bytes := 24) (by kernel_rfl) tI_23 rfl rfl rfl rfl (by decide) [_] _ o k (vsL q) i3 (by simp [vsL, i2]) (Src.own List.mem_cons_self) (m := 1) (news := [.slice x4 (formC (chunkAt id text z k)).length y4]) rfl (by intro u hu; simp only [List.mem_singleton] at hu; subst hu; rfl) (by simp [maxLen]; omega) (by omega) ?_
      intro o' j1 j2 j3
      simp -dsimp -implicitDefEqProofs (disch := first | with_reducible assumption | omega) [go_sem]
      refine ⟨k + 1, o', q ++ [(.slice x4 (formC (chunkAt id text z k)).length y4, formC (chunkAt id text z k))], h4, ⟨by omega, by simp [i2], j1, apO_tail j2, i6.trans le4, fun qa qb hq => ?_, ?_⟩, by omega, by simp [Ent, List.lookup], ?_⟩
      · have hq : (qa, qb) ∈ q ++ [(.slice x4 (formC (chunkAt id text z k)).length y4, formC (chunkAt id text z k))] := by simpa using hq
        rcases List.mem_append.1 hq with hq | hq
        · exact (i7 (qa, qb) hq).up le4
        · have := List.mem_singleton.1 hq
          injection this with e1 e2
          subst e1; subst e2
          exact hr4'
      · rw [cutF_take _ _ _ _ c1, ← i8]
        simp [xsL]
      · simp only [vsL, List.map_append, List.map_cons, List.map_nil]
        exact Drop.tail _ _ _
    · have hkl : k = allN text.length z := by omega
      subst hkl
      rw [← cutF_len id text z, List.take_length] at i8
      simp -dsimp -implicitDefEqProofs (disch := first | with_reducible assumption | omega) [go_sem]
      rw [← i2] at i3 ⊢
      exact fin_pub (n := q.length) i3 (by simp [vsL]) (by omega) i4 fun h' le sl => fin_here (hk h' _ q (i6.trans le) (strs_pub sl fun p hp => (i7 p hp).up le) i8)
end Go.X

/- Contracts of bullionref09's Form, Encode, and of the law BlockEncodes. Conditions: the value reads as a list of deeds. -/
import Derived.Test.YtbobjcapmfpmkaaQG
import Derived.Test.YtbobjcapmfpmkaaQE
import Derived.Test.YtbobjcapmfpmkaaPY
set_option linter.unusedVariables false
set_option linter.unusedSimpArgs false
namespace Go.X
open Go.RowKit Go.Proofs Go.Bl
variable {L : Own} {h : PH} {K : PK}
set_option maxHeartbeats 4000000 in
set_option maxRecDepth 20000 in
theorem form9_any {l : List QD} (v : Value) (hd0 : Deeds h v l) (hn : l.length ≤ 64) (hr : ∀ d ∈ dl l, rightD d = true) (hk : ∀ h' r, PH.le h h' → Ints h' .u8 r (encB (dl l)) → K r L h') : Spec Try.prog 119 [v] L h K := by
  obtain ⟨a, c, rfl, hc, hl, _, hd⟩ := hd0.open
  have hAllR : AllR (dl l) := fun d hdm => by
    refine ⟨?_, hr d hdm⟩
    obtain ⟨q, hq, rfl⟩ := List.mem_map.1 hdm
    exact (hd.d q hq).ok
  obtain ⟨B, hB⟩ : ∃ B : Nat → List Int, ∀ i, B i = formN l.length ++ encL ((dl l).take i) := ⟨_, fun _ => rfl⟩
  have hBl : ∀ k, (B k).length ≤ 26000 := fun k => by
    have h1 := encL_len (l := (dl l).take k) fun d hd => hAllR d (List.mem_of_mem_take hd)
    rw [hB, List.length_append, formN_lt (by omega)]
    simp only [List.length_singleton]
    simp only [List.length_take, dl_len] at h1
    omega
  refine x_enter Try.func119 rfl (rs := [_]) rfl rfl mixed (by kernel_rfl) rfl rfl ?_
  simp -dsimp -implicitDefEqProofs (disch := first | with_reducible assumption | omega) [go_sem]
  refine rformI_any (l.length : Int) (by omega) (by omega) fun o2 k2 m2 => ?_
  simp only [Int.toNat_natCast] at k2 m2 ⊢
  have e0 : formN l.length = B 0 := by rw [hB]; simp [encL]
  rw [e0] at k2 ⊢
  simp -dsimp -implicitDefEqProofs (disch := first | with_reducible assumption | omega) [go_sem]
  refine xloop (γ := Nat × Option (Nat × Nat)) (0, o2) (fun s => s.1 ≤ l.length ∧ okO s.2 (B s.1).length ∧ apO s.2 L h) (fun s => [(4, .int .i64 s.1), (3, ovs s.2 (B s.1).length), (0, .slice a l.length c)])
    (fun s => oent 5 1 s.2 ((B s.1).map (.int .u8)) L) (fun _ => h) (fun s => l.length - s.1) ?_ ?_ ?_ ?_
  · exact ⟨Nat.zero_le _, k2, m2⟩
  · simp [Ent, List.lookup, xEnv]
  · exact Drop.refl _ _
  rintro ⟨k, o⟩ ⟨k1, k2, k3⟩
  simp only at k1 k2 k3 ⊢
  have hb1 := hBl k
  have hb2 := hBl (k + 1)
  by_cases c1 : k < l.length
  · have hi := hd.at c1
    obtain ⟨x1, y1, hv, _⟩ := hi.i.open
    have et : B (k + 1) = B k ++ encD (gq l k).2 := by
      have h1 := dl_gq c1
      obtain ⟨h2, h3⟩ := List.getElem?_eq_some_iff.1 h1
      rw [hB, hB, List.take_succ_eq_append_getElem h2, h3, encL_app, List.append_assoc]
      simp [encL]
    have hrk := hr _ (mem_gq c1)
    have hel := encD_len hi.ok hrk
    simp -dsimp -implicitDefEqProofs (disch := first | with_reducible assumption | omega) [go_sem, ↓idxD hd]
    rw [hv] at hi ⊢
    refine form8_any _ hi hrk fun o5 k5 => ?_
    simp -dsimp -implicitDefEqProofs (disch := first | with_reducible assumption | omega) [go_sem]
    cases o5 with
    | none =>
      have : (encD (gq l k).2).length = 0 := k5
      omega
    | some p5 =>
      obtain ⟨b5, cap5⟩ := p5
      refine xappend (t := 23) (e := 5) (sz := 1) (bytes := 1) (z := [.int .u8 0]) (by kernel_rfl) tI_5 rfl rfl rfl rfl (by decide) [⟨b5, 5, (encD (gq l k).2).map (.int .u8), cap5 * 1⟩] L o (B k).length ((B k).map (.int .u8)) k2 (by simp) (m := (encD (gq l k).2).length) (news := (encD (gq l k).2).map (.int .u8)) (Src.own (b := b5) (t := 5) (cap := cap5 * 1) (by simp)) (by simp) (ints_one _ _) (by simp only [maxLen]; omega) (by omega) ?_
      intro o3 i1 i2 i3
      rw [← List.map_append, ← List.length_append, ← et] at *
      simp -dsimp -implicitDefEqProofs (disch := first | with_reducible assumption | omega) [go_sem]
      exact ⟨k + 1, o3, ⟨by omega, i1, apO_tail i2⟩, by omega, by simp [Ent, List.lookup], Drop.tail _ _ _⟩
  · have hkl : k = l.length := by omega
    subst hkl
    have htk : (dl l).take l.length = dl l := by rw [← dl_len l, List.take_length]
    have eB : B l.length = encB (dl l) := by rw [hB, htk, encB, dl_len]
    have hbb : ∀ d ∈ dl l, ∀ z ∈ d.bits, 0 ≤ z ∧ z ≤ 255 := fun d hdm => by
      obtain ⟨q, hq, rfl⟩ := List.mem_map.1 hdm
      exact byte_of (hd.d q hq).i
    rw [eB] at k2 hb1 ⊢
    simp -dsimp -implicitDefEqProofs (disch := first | with_reducible assumption | omega) [go_sem]
    exact fin_pub (n := (encB (dl l)).length) k2 (by simp) (by omega) k3 fun h' le sl => fin_here (hk h' _ le (form_ints (encB_byte hbb) sl))
set_option maxHeartbeats 4000000 in
set_option maxRecDepth 20000 in
theorem enc9_any {l : List QD} (v : Value) (hd0 : Deeds h v l) (hk : ∀ h' r, PH.le h h' → (if (bencA (dl l)).2 = 0 then Ints h' .u8 r (encB (dl l)) else r = .slice none 0 0) → K (.tuple #[r, .int .i64 (bencA (dl l)).1, .int .i64 (bencA (dl l)).2]) L h') :
    Spec Try.prog 63 [v] L h K := by
  obtain ⟨a, c, rfl, hc, hl, _, hd⟩ := hd0.open
  refine x_enter Try.func63 rfl (rs := [_, _, _]) rfl rfl mixed (by kernel_rfl) rfl rfl ?_
  simp -dsimp -implicitDefEqProofs (disch := first | with_reducible assumption | omega) [go_sem]
  by_cases c0 : (l.length : Int) > 64
  · have e : bencA (dl l) = (0, 3) := by rw [bencA, dl_len, if_pos (by omega)]
    rw [e] at hk
    simp -dsimp -implicitDefEqProofs (disch := first | with_reducible assumption | omega) [go_sem]
    exact fin_here (hk h _ (PH.le_refl _) (by simp))
  simp -dsimp -implicitDefEqProofs (disch := first | with_reducible assumption | omega) [go_sem]
  refine xloop (γ := Nat × PH) (0, h) (fun s => s.1 ≤ l.length ∧ PH.le h s.2 ∧ ∀ d ∈ (dl l).take s.1, rightD d = true) (fun s => [(5, .int .i64 s.1), (0, .slice a l.length c)])
    (fun _ => L) (fun s => s.2) (fun s => l.length - s.1) ?_ ?_ ?_ ?_
  · exact ⟨Nat.zero_le _, PH.le_refl _, by simp⟩
  · simp [Ent, List.lookup, xEnv]
  · exact Drop.refl _ _
  rintro ⟨k, hh⟩ ⟨i1, i2, i5⟩
  simp only at i1 i2 i5 ⊢
  have hdk := hd.up i2
  by_cases c1 : k < l.length
  · have hi := hdk.at c1
    obtain ⟨x1, y1, hv, _⟩ := hi.i.open
    simp -dsimp -implicitDefEqProofs (disch := first | with_reducible assumption | omega) [go_sem, ↓idxD hdk]
    rw [hv] at hi ⊢
    refine right8_any _ hi fun h4 le4 => ?_
    cases hr : rightD (gq l k).2 with
    | false =>
      have hg : goodN (dl l) = k := goodN_at (fun j hj hlj => i5 _ (by rw [List.mem_take_iff_getElem]; exact ⟨j, by omega, rfl⟩)) (dl_gq c1) hr
      have e : bencA (dl l) = ((k : Int), 80) := by rw [bencA, dl_len, if_neg (by omega), hg, if_pos c1]
      rw [e] at hk
      simp -dsimp -implicitDefEqProofs (disch := first | with_reducible assumption | omega) [go_sem]
      exact fin_here (hk h4 _ (i2.trans le4) (by simp))
    | true =>
      simp -dsimp -implicitDefEqProofs (disch := first | with_reducible assumption | omega) [go_sem]
      refine ⟨k + 1, h4, ⟨by omega, i2.trans le4, fun d hdm => ?_⟩, by omega, by simp [Ent, List.lookup], Drop.refl _ _⟩
      have h1 := dl_gq c1
      obtain ⟨h2, h3⟩ := List.getElem?_eq_some_iff.1 h1
      rw [List.take_succ_eq_append_getElem h2, h3] at hdm
      rcases List.mem_append.1 hdm with hdm | hdm
      · exact i5 d hdm
      · rw [List.mem_singleton.1 hdm]; exact hr
  · have hkl : k = l.length := by omega
    subst hkl
    have htk : (dl l).take l.length = dl l := by rw [← dl_len l, List.take_length]
    rw [htk] at i5
    have e : bencA (dl l) = (0, 0) := by rw [bencA, dl_len, if_neg (by omega), goodN_all i5, dl_len, if_neg (by omega)]
    rw [e] at hk
    have hAll : AllR (dl l) := fun d hdm => by
      refine ⟨?_, i5 d hdm⟩
      obtain ⟨q, hq, rfl⟩ := List.mem_map.1 hdm
      exact (hd.d q hq).ok
    have hle := encB_len hAll (by rw [dl_len]; omega)
    simp -dsimp -implicitDefEqProofs (disch := first | with_reducible assumption | omega) [go_sem]
    refine form9_any _ hdk (by omega) i5 fun h4 r le4 hr4 => ?_
    have hr4' := hr4
    have or4 := hr4.open
    obtain ⟨x4, y4, rfl, _⟩ := or4
    simp -dsimp -implicitDefEqProofs (disch := first | with_reducible assumption | omega) [go_sem]
    exact fin_here (hk h4 _ (i2.trans le4) (by simpa using hr4'))
set_option maxHeartbeats 8000000 in
set_option maxRecDepth 20000 in
theorem blockencodes_any (v : Value) (hq : ∃ l, Deeds h v l) (hk : ∀ h', PH.le h h' → K (.bool true) L h') : Spec Try.prog 14 [v] L h K := by
  obtain ⟨l, hd0⟩ := hq
  obtain ⟨a, c, rfl, hc, hl, _, hd⟩ := hd0.open
  refine x_enter Try.func14 rfl (rs := [_]) rfl rfl mixed (by kernel_rfl) rfl rfl ?_
  simp -dsimp -implicitDefEqProofs (disch := first | with_reducible assumption | omega) [go_sem]
  refine awake9_any fun h2 le2 => ?_
  simp -dsimp -implicitDefEqProofs (disch := first | with_reducible assumption | omega) [go_sem]
  refine few9_any _ 100 (hd.up le2) ?_
  cases hf : fewL (dl l) 100 with
  | false =>
    simp -dsimp -implicitDefEqProofs (disch := first | with_reducible assumption | omega) [go_sem]
    exact fin_here (hk h2 le2)
  | true =>
  have hl100 := (fewL_iff.1 hf).2
  rw [dl_len] at hl100
  simp -dsimp -implicitDefEqProofs (disch := first | with_reducible assumption | omega) [go_sem]
  refine benc_any _ (hd.up le2) fun h3 r le3 hr3 => ?_
  obtain ⟨p3, e3, hb3⟩ : ∃ p e, bencA (dl l) = (p, e) := ⟨_, _, rfl⟩
  rw [hb3] at hr3 ⊢
  simp only at hr3 ⊢
  obtain ⟨bs, hbs⟩ : ∃ bs, bs = if e3 = 0 then encB (dl l) else [] := ⟨_, rfl⟩
  have hri : Ints h3 .u8 r bs := by
    rw [hbs]
    split at hr3
    · rename_i c; rw [if_pos c]; exact hr3
    · rename_i c; rw [if_neg c, hr3]; exact nil_ints _ .u8
  have or3 := hri.open
  obtain ⟨x3, y3, rfl, _⟩ := or3
  simp -dsimp -implicitDefEqProofs (disch := first | with_reducible assumption | omega) [go_sem]
  refine plain9_any _ (hd.up (le2.trans le3)) (by omega) fun h4 r4 le4 hd4 => ?_
  obtain ⟨a4, c4, rfl, _, _, _, hd4⟩ := hd4.open
  simp -dsimp -implicitDefEqProofs (disch := first | with_reducible assumption | omega) [go_sem]
  refine enc9_any _ hd4 fun h5 r5 le5 hr5 => ?_
  rw [hb3] at hr5 ⊢
  simp only at hr5 ⊢
  have hri5 : Ints h5 .u8 r5 bs := by
    rw [hbs]
    split at hr5
    · rename_i c; rw [if_pos c]; exact hr5
    · rename_i c; rw [if_neg c, hr5]; exact nil_ints _ .u8
  have or5 := hri5.open
  obtain ⟨x5, y5, rfl, _⟩ := or5
  simp -dsimp -implicitDefEqProofs (disch := first | with_reducible assumption | omega) [go_sem]
  refine same8 _ _ (hri.up (le4.trans le5)) hri5 ?_
  rw [decide_eq_true rfl]
  have hd5 := hd.up (le2.trans (le3.trans (le4.trans le5)))
  simp -dsimp -implicitDefEqProofs (disch := first | with_reducible assumption | omega) [go_sem]
  refine xnew fun b9 n_b9 h_b9 => ?_
  try simp only [Apart] at n_b9
  simp -dsimp -implicitDefEqProofs (disch := first | with_reducible assumption | omega) [go_sem]
  obtain ⟨Z, hZ⟩ : ∃ Z : Nat → List Int, ∀ i, Z i = kindsL ((dl l).take i) := ⟨_, fun _ => rfl⟩
  have z0 : Z 0 = [0, 0, 0, 0, 0, 0, 0, 0] := by rw [hZ]; rfl
  refine xloop (γ := Nat) 0 (fun k => k ≤ l.length) (fun k => [(47, .int .i64 k), (46, .int .i64 l.length), (45, .slice a l.length c), (9, .pointer (some ⟨b9, 0, none⟩)), (0, .slice a l.length c)])
    (fun k => ⟨b9, 117, (Z k).map (Value.int .i64), 8⟩ :: L) (fun _ => h5) (fun k => l.length - k) ?_ ?_ ?_ ?_
  · exact Nat.zero_le _
  · simp [Ent, List.lookup, xEnv]
  · rw [z0]; exact Drop.refl _ _
  rintro k k1
  have hz := kinds_ok ((dl l).take k)
  rw [← hZ] at hz
  obtain ⟨hz8, hzb⟩ := hz
  by_cases c1 : k < l.length
  · have hi := (hd5.at c1).i
    obtain ⟨x1, y1, hv, hy, hly, _⟩ := hi.open
    have hs : Z (k + 1) = kstep (Z k) (gq l k).2.kind := by
      have h1 := dl_gq c1
      obtain ⟨h2, h3⟩ := List.getElem?_eq_some_iff.1 h1
      rw [hZ, hZ, List.take_succ_eq_append_getElem h2, h3, kindsL_snoc]
    have hb : ((dl l).take k).length ≤ 100000 := by rw [List.length_take, dl_len]; omega
    have q0 := hzb 0
    simp -dsimp -implicitDefEqProofs (disch := first | with_reducible assumption | omega) [go_sem, ↓idxD hd5]
    refine xnew fun b5 n_b5 h_b5 => ?_
    try simp only [Apart] at n_b5
    simp -dsimp -implicitDefEqProofs (disch := first | with_reducible assumption | omega) [go_sem, hv]
    obtain ⟨d, hdd⟩ : ∃ d, d = (gq l k).2 := ⟨_, rfl⟩
    rw [← hdd] at hs ⊢
    by_cases c2 : 0 < d.kind
    · by_cases c3 : d.kind < 8
      · have ha : kAt d.kind = d.kind.toNat := by rw [kAt, if_pos ⟨by omega, by omega⟩]
        have hq := hzb d.kind.toNat
        have hat : (d.kind.toNat : Int) = d.kind := by omega
        simp -dsimp -implicitDefEqProofs (disch := first | with_reducible assumption | omega) [go_sem, xNth_ints]
        refine ⟨by omega, k + 1, by omega, by omega, by simp [Ent, List.lookup], ?_⟩
        rw [hs, kstep, ha, List.map_set]
        exact Drop.tail _ _ _
      · have ha : kAt d.kind = 0 := by rw [kAt, if_neg (by omega)]
        simp -dsimp -implicitDefEqProofs (disch := first | with_reducible assumption | omega) [go_sem, xNth_ints]
        refine ⟨by omega, k + 1, by omega, by omega, by simp [Ent, List.lookup], ?_⟩
        rw [hs, kstep, ha, List.map_set]
        exact Drop.tail _ _ _
    · have ha : kAt d.kind = 0 := by rw [kAt, if_neg (by omega)]
      simp -dsimp -implicitDefEqProofs (disch := first | with_reducible assumption | omega) [go_sem, xNth_ints]
      refine ⟨by omega, k + 1, by omega, by omega, by simp [Ent, List.lookup], ?_⟩
      rw [hs, kstep, ha, List.map_set]
      exact Drop.tail _ _ _
  · have hkl : k = l.length := by omega
    have ez : Z k = kindsL (dl l) := by rw [hZ, hkl, ← dl_len l, List.take_length]
    rw [ez]
    rw [ez] at hz8
    simp -dsimp -implicitDefEqProofs (disch := first | with_reducible assumption | omega) [go_sem]
    refine xdraw (by kernel_rfl) rfl ?_
    simp -dsimp -implicitDefEqProofs (disch := first | with_reducible assumption | omega) [go_sem]
    refine xdcall _ (kinds_any (l := l) _ hd5 (by omega) ⟨rfl, rfl, rfl⟩) ?_
    simp -dsimp -implicitDefEqProofs (disch := first | with_reducible assumption | omega) [go_sem, xNth_ints, eq8]
    exact fin_tail (fin_here (hk h5 (le2.trans (le3.trans (le4.trans le5)))))
end Go.X

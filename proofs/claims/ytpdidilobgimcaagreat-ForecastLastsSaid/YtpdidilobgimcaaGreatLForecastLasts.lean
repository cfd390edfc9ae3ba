/- The law ForecastLasts: whatever the input, it returns true and leaves it as it was. Conditions: none. -/
import Derived.Test.YtpdidilobgimcaaGreatQ13
import Derived.Test.YtpdidilobgimcaaGreatQ14
import Derived.Test.YtpdidilobgimcaaGreatQ34
set_option linter.unusedVariables false
set_option linter.unusedSimpArgs false
namespace Go.Proofs.YtpdidilobgimcaaGreat.forecastLastsDone
open Go.ChangeShapes Go.WideShapes Go.ChangeAt Go.RowKit Go.X Go.Joins
set_option maxRecDepth 100000 in
theorem lifted (os : Os) (started : os.Started) (H : Type) (enc : TypeId × Value → H) :
    ReturnsInHanded {} Tryz.checked os 11 .any (Rows.forecastLastsSpec.pre6 enc Tryz.prog Tryz.f11 Rows.forecastLastsRow.domain false) (Rows.forecastLastsSpec.post enc Tryz.prog Tryz.f11 false true false false) := by
  refine returnsInHanded_of_change (C := Tryz.checked) own started (by kernel_rfl) Tryz.func11
    (ChangeSpec.witness6 (enc := enc) (C := Tryz.checked) false ⟨#[], #[.agg #[.int .u64 0, .int .u64 0, .int .u64 0, .int .u64 0, .int .u64 0, .int .u64 0, .int .u64 0, .int .u64 0, .int .u64 0, .int .u64 0, .int .u64 0, .int .u64 0, .int .u64 0, .int .u64 0, .int .i64 0, .int .i64 0, .int .i64 0, .int .i64 0, .int .i64 0, .int .i64 0, .int .i64 0, .int .i64 0, .int .i64 0, .int .i64 0], .agg #[.int .u64 0, .int .u64 0, .int .u64 0, .int .i64 0], .agg #[.bool false, .int .i64 0]], []⟩ 8 (by kernel_rfl) (by kernel_rfl) (by kernel_rfl) (by kernel_rfl)) ?_
  intro W base args ds gs before hval0 hW hcnd _
  have hval : ∀ (j : Nat) t v, Tryz.f11.params[j]? = some t → args[j]? = some v → Value.okWide Tryz.prog W .any base t v := hval0
  have hW' := hW
  obtain ⟨p, q, hA0, hV, rfl, hfz, hnd⟩ := hW
  have hA : DataW.TrodAll enc Tryz.prog W 0 (fun _ => true) true Tryz.f11.params.toList args.toList ds p := hA0
  rw [Tryz.params11] at hA hval
  obtain ⟨v0, vs0, d0, ds0, p0, q0, hargs, rfl, rfl, h0, r0⟩ := trodAll_cons hA
  obtain ⟨v1, vs1, d1, ds1, p1, q1, rfl, rfl, rfl, h1, r1⟩ := trodAll_cons r0
  obtain ⟨v2, vs2, d2, ds2, p2, q2, rfl, rfl, rfl, h2, r2⟩ := trodAll_cons r1
  obtain ⟨rfl, rfl, rfl⟩ := trodAll_nil r2
  obtain rfl : args = #[v0, v1, v2] := by cases args; simp_all
  obtain ⟨rfl, rfl⟩ := trodVars_none hV
  have lt0 : ∀ x ∈ p0, x.block < W.heap.size := by obtain ⟨m, hm⟩ := h0; exact DataW.trod_lt m _ _ _ hm
  have lt1 : ∀ x ∈ p1, x.block < W.heap.size := by obtain ⟨m, hm⟩ := h1; exact DataW.trod_lt m _ _ _ hm
  have lt2 : ∀ x ∈ p2, x.block < W.heap.size := by obtain ⟨m, hm⟩ := h2; exact DataW.trod_lt m _ _ _ hm
  have e0 := Zhf (hval 0 _ v0 rfl rfl) h0
  have e1 := Zhu (hval 1 _ v1 rfl rfl) h1
  have e2 := Zpv (hval 2 _ v2 rfl rfl) h2
  clear hA0 hval0
  refine ((J9 (K := fun v _ _ => v = .bool true) (L := []) v0 v1 v2 e0 e1 e2 fun _ _ => rfl).calls ⟨Tryz.f11, Tryz.func11, by decide +kernel, rfl⟩).mono fun e W' ⟨he, bel⟩ => ?_
  subst he
  exact ⟨_, rfl, _, _, _, [], _, [], hW', trodAll_mk1 (shut_bool Tryz.underlying4 _), (trodAll_cons_mk (Below.trod JQ (by kernel_rfl) (of_decide_eq_true (by kernel_rfl)) h0 bel lt0) (trodAll_cons_mk (Below.trod JQ (by kernel_rfl) (of_decide_eq_true (by kernel_rfl)) h1 bel lt1) (trodAll_cons_mk (Below.trod JQ (by kernel_rfl) (of_decide_eq_true (by kernel_rfl)) h2 bel lt2) trodAll_mk0))), rfl, bel.frame _, fun h => by cases h⟩

theorem andI {a b : Bool} (h1 : a = true) (h2 : b = true) : (a && b) = true := by rw [h1, h2]; rfl
theorem c0 : (Rows.forecastLastsRow.wf (OpenSpec.ofChange Rows.forecastLastsSpec) : Bool) = true := by kernel_rfl
theorem c1 : (laidOutB Tryz.prog : Bool) = true := by kernel_rfl
theorem c2 : (mapsRowed Tryz.prog : Bool) = true := by kernel_rfl
theorem c3 : (Tryz.f11.params.all (Tryz.prog.readableRec ·) : Bool) = true := by kernel_rfl
theorem c4 : (namedTie Tryz.prog Rows.forecastLastsRow.named Rows.forecastLastsSpec.vars : Bool) = true := by kernel_rfl
theorem c5 : ((Rows.forecastLastsRow.stops == []) : Bool) = true := by kernel_rfl
theorem c6 : ((Tryz.prog.stops == []) : Bool) = true := by kernel_rfl
theorem c7 : ((Rows.forecastLastsRow.knobs == []) : Bool) = true := by kernel_rfl
theorem c8 : ((Tryz.prog.stopKnobs == []) : Bool) = true := by kernel_rfl
theorem c9 : ((Rows.forecastLastsRow.inPlace == Tryz.prog.inPlace 11) : Bool) = true := by kernel_rfl
theorem c10 : ((Rows.forecastLastsRow.unfollowed == Tryz.prog.unfollowed 11) : Bool) = true := by kernel_rfl
theorem c11 : ((Rows.forecastLastsRow.recurses == Tryz.prog.recurses 11) : Bool) = true := by kernel_rfl
theorem c12 : ((Rows.forecastLastsRow.named == Tryz.prog.varsNamed 11) : Bool) = true := by kernel_rfl
theorem c13 : ((Rows.forecastLastsRow.maps == (Tryz.f11.params.toList ++ Rows.forecastLastsSpec.plain.varTypes Tryz.prog).any (Tryz.prog.mapsRec ·)) : Bool) = true := by kernel_rfl
theorem c14 : ((Rows.forecastLastsRow.ifaces == (Tryz.f11.params.toList ++ Rows.forecastLastsSpec.plain.varTypes Tryz.prog).any (Tryz.prog.ifacesRec ·)) : Bool) = true := by kernel_rfl
theorem c15 : ((Rows.forecastLastsRow.mapsOut == Tryz.prog.mapsAmong Tryz.f11.resultTypes.toList) : Bool) = true := by kernel_rfl
theorem c16 : ((Rows.forecastLastsRow.loops == (Tryz.f11.params.toList ++ Rows.forecastLastsSpec.plain.varTypes Tryz.prog).any (Tryz.prog.loopsFrom ·)) : Bool) = true := by kernel_rfl
theorem c17 : ((Rows.forecastLastsRow.wideKeys == (Tryz.f11.params.toList ++ Rows.forecastLastsSpec.plain.varTypes Tryz.prog ++ Tryz.f11.resultTypes.toList).any (Tryz.prog.wideKeysFrom ·)) : Bool) = true := by kernel_rfl
theorem c18 : (Rows.forecastLastsSpec.vars.all (Tryz.prog.varReadable ·) : Bool) = true := by kernel_rfl
theorem c19 : (Tryz.f11.resultTypes.all (fun t => Tryz.prog.readableRec t && decide (t < Tryz.prog.types.size)) : Bool) = true := by kernel_rfl
theorem c20 : ((Rows.forecastLastsRow.ifacesOut == Tryz.f11.resultTypes.toList.any (Tryz.prog.ifacesRec ·)) : Bool) = true := by kernel_rfl
theorem c21 : ((Rows.forecastLastsRow.loopsOut == Tryz.f11.resultTypes.toList.any (Tryz.prog.loopsFrom ·)) : Bool) = true := by kernel_rfl
theorem c22 : ((Rows.forecastLastsRow.plainKeys == Tryz.prog.plainKeys) : Bool) = true := by kernel_rfl
theorem c23 : (Rows.forecastLastsRow.shortTexts.isNone : Bool) = true := by kernel_rfl
theorem c24 : (Tryz.prog.stopsHeard : Bool) = true := by kernel_rfl
theorem c25 : (Tryz.prog.mayEnter : Bool) = true := by kernel_rfl
theorem c26 : ((Rows.forecastLastsRow.lifted == Tryz.prog.liftsFinal) : Bool) = true := by kernel_rfl
theorem c27 : ((Tryz.prog.make == some Rows.forecastLastsRow.make) : Bool) = true := by kernel_rfl
theorem c28 : ((Rows.forecastLastsRow.kinds == (if Rows.forecastLastsRow.domain.isEmpty then [] else Tryz.f11.params.toList.map fun t => match Tryz.prog.underlying t with | some (.int k) => some k | _ => none)) : Bool) = true := by kernel_rfl
theorem c29 : ((Rows.forecastLastsRow.pinned == Rows.forecastLastsRow.pinnedBy) : Bool) = true := by kernel_rfl
theorem c30 : ((Rows.forecastLastsRow.veiled == (Tryz.f11.params.toList ++ Rows.forecastLastsSpec.plain.varTypes Tryz.prog ++ Tryz.f11.resultTypes.toList).any (Tryz.prog.veiledRec ·)) : Bool) = true := by kernel_rfl
theorem c31 : (Rows.forecastLastsRow.veiledFits Tryz.prog Tryz.f11.params.toList (Tryz.f11.params.toList ++ Rows.forecastLastsSpec.plain.varTypes Tryz.prog ++ Tryz.f11.resultTypes.toList) : Bool) = true := by kernel_rfl
set_option maxRecDepth 100000 in
theorem closed : joinedFacts Tryz.prog 11 Tryz.f11 Rows.forecastLastsSpec Rows.forecastLastsRow = true := by
  unfold joinedFacts
  exact andI (andI (andI (andI (andI (andI (andI (andI (andI (andI (andI (andI (andI (andI (andI (andI (andI (andI (andI (andI (andI (andI (andI (andI (andI (andI (andI (andI (andI (andI (andI (c0) c1) c2) c3) c4) c5) c6) c7) c8) c9) c10) c11) c12) c13) c14) c15) c16) c17) c18) c19) c20) c21) c22) c23) c24) c25) c26) c27) c28) c29) c30) c31
theorem named' : Tryz.prog.funcNamed Rows.forecastLastsRow.func = some 11 := by kernel_rfl
theorem inst : Tryz.f11.isInstance Tryz.prog Rows.forecastLastsRow.origin Rows.forecastLastsRow.targs := of_decide_eq_true (by kernel_rfl)
theorem wrap : Tryz.f11.isWrapper Tryz.prog Rows.forecastLastsRow.wrapper Rows.forecastLastsRow.mainSum := by unfold Func.isWrapper; first | (rw [if_pos (by decide +kernel)]; kernel_rfl) | (rw [if_neg (by decide +kernel)]; exact ⟨rfl, rfl⟩)
/-- the statement -/
theorem proved : Rows.ForecastLastsSaid :=
  OpenClaim.holds_of_wide 11 Tryz.f11 rfl rfl rfl rfl rfl rfl rfl ⟨rfl, rfl, rfl, rfl, rfl⟩ rfl rfl rfl rfl rfl named' Tryz.func11 closed inst wrap
    (fun os started H enc _ => lifted os started H enc)
#print axioms proved
end Go.Proofs.YtpdidilobgimcaaGreat.forecastLastsDone

/- The law AuditLimits: whatever the input, it returns true and leaves it as it was. Conditions: none. -/
import Derived.Test.YtllhopbilpdpkaaGreatQ08
import Derived.Test.YtllhopbilpdpkaaGreatQ10
import Derived.Test.YtllhopbilpdpkaaGreatQ38
set_option linter.unusedVariables false
set_option linter.unusedSimpArgs false
namespace Go.Proofs.YtllhopbilpdpkaaGreat.auditLimitsDone
open Go.ChangeShapes Go.WideShapes Go.ChangeAt Go.RowKit Go.X Go.Joins
set_option maxRecDepth 100000 in
theorem lifted (os : Os) (started : os.Started) (H : Type) (enc : TypeId × Value → H) :
    ReturnsInHanded {} Tryz.checked os 4 .any (Rows.auditLimitsSpec.pre6 enc Tryz.prog Tryz.f4 Rows.auditLimitsRow.domain false) (Rows.auditLimitsSpec.post enc Tryz.prog Tryz.f4 false true false false) := by
  refine returnsInHanded_of_change (C := Tryz.checked) own started (by kernel_rfl) Tryz.func4
    (ChangeSpec.witness6 (enc := enc) (C := Tryz.checked) false ⟨#[], #[.agg #[.int .u64 0, .int .u64 0, .int .u64 0, .int .u64 0, .int .u64 0, .int .u64 0, .int .u64 0, .int .u64 0, .int .u64 0, .int .u64 0, .int .u64 0, .int .u64 0, .int .u64 0, .int .u64 0, .int .i64 0, .int .i64 0, .int .i64 0, .int .i64 0, .int .i64 0, .int .i64 0, .int .i64 0, .int .i64 0, .int .i64 0, .int .i64 0, .int .u64 0, .int .u64 0, .int .u64 0, .int .u64 0, .int .u64 0, .int .i64 0, .int .i64 0, .bool false, .slice none 0 0, .slice none 0 0, .slice none 0 0, .slice none 0 0, .slice none 0 0, .slice none 0 0, .slice none 0 0, .slice none 0 0, .slice none 0 0], .slice none 0 0], []⟩ 8 (by kernel_rfl) (by kernel_rfl) (by kernel_rfl) (by kernel_rfl)) ?_
  intro W base args ds gs before hval0 hW hcnd _
  have hval : ∀ (j : Nat) t v, Tryz.f4.params[j]? = some t → args[j]? = some v → Value.okWide Tryz.prog W .any base t v := hval0
  have hW' := hW
  obtain ⟨p, q, hA0, hV, rfl, hfz, hnd⟩ := hW
  have hA : DataW.TrodAll enc Tryz.prog W 0 (fun _ => true) true Tryz.f4.params.toList args.toList ds p := hA0
  rw [Tryz.params4] at hA hval
  obtain ⟨v0, vs0, d0, ds0, p0, q0, hargs, rfl, rfl, h0, r0⟩ := trodAll_cons hA
  obtain ⟨v1, vs1, d1, ds1, p1, q1, rfl, rfl, rfl, h1, r1⟩ := trodAll_cons r0
  obtain ⟨rfl, rfl, rfl⟩ := trodAll_nil r1
  obtain rfl : args = #[v0, v1] := by cases args; simp_all
  obtain ⟨rfl, rfl⟩ := trodVars_none hV
  have lt0 : ∀ x ∈ p0, x.block < W.heap.size := by obtain ⟨m, hm⟩ := h0; exact DataW.trod_lt m _ _ _ hm
  have lt1 : ∀ x ∈ p1, x.block < W.heap.size := by obtain ⟨m, hm⟩ := h1; exact DataW.trod_lt m _ _ _ hm
  have e0 := JI (hval 0 _ v0 rfl rfl) h0
  obtain ⟨c1, e1⟩ := Znl (hval 1 _ v1 rfl rfl) h1
  clear hA0 hval0
  refine ((Zcp (K := fun v _ _ => v = .bool true) (L := []) v0 v1 e0 e1 fun _ _ => rfl).calls ⟨Tryz.f4, Tryz.func4, by decide +kernel, rfl⟩).mono fun e W' ⟨he, bel⟩ => ?_
  subst he
  exact ⟨_, rfl, _, _, _, [], _, [], hW', trodAll_mk1 (shut_bool Tryz.underlying4 _), (trodAll_cons_mk (Below.trod Zbu (by kernel_rfl) (of_decide_eq_true (by kernel_rfl)) h0 bel lt0) (trodAll_cons_mk (Below.trod Zbu (by kernel_rfl) (of_decide_eq_true (by kernel_rfl)) h1 bel lt1) trodAll_mk0)), rfl, bel.frame _, fun h => by cases h⟩

theorem andI {a b : Bool} (h1 : a = true) (h2 : b = true) : (a && b) = true := by rw [h1, h2]; rfl
theorem c0 : (Rows.auditLimitsRow.wf (OpenSpec.ofChange Rows.auditLimitsSpec) : Bool) = true := by kernel_rfl
theorem c1 : (laidOutB Tryz.prog : Bool) = true := by kernel_rfl
theorem c2 : (mapsRowed Tryz.prog : Bool) = true := by kernel_rfl
theorem c3 : (Tryz.f4.params.all (Tryz.prog.readableRec ·) : Bool) = true := by kernel_rfl
theorem c4 : (namedTie Tryz.prog Rows.auditLimitsRow.named Rows.auditLimitsSpec.vars : Bool) = true := by kernel_rfl
theorem c5 : ((Rows.auditLimitsRow.stops == []) : Bool) = true := by kernel_rfl
theorem c6 : ((Tryz.prog.stops == []) : Bool) = true := by kernel_rfl
theorem c7 : ((Rows.auditLimitsRow.knobs == []) : Bool) = true := by kernel_rfl
theorem c8 : ((Tryz.prog.stopKnobs == []) : Bool) = true := by kernel_rfl
theorem c9 : ((Rows.auditLimitsRow.inPlace == Tryz.prog.inPlace 4) : Bool) = true := by kernel_rfl
theorem c10 : ((Rows.auditLimitsRow.unfollowed == Tryz.prog.unfollowed 4) : Bool) = true := by kernel_rfl
theorem c11 : ((Rows.auditLimitsRow.recurses == Tryz.prog.recurses 4) : Bool) = true := by kernel_rfl
theorem c12 : ((Rows.auditLimitsRow.named == Tryz.prog.varsNamed 4) : Bool) = true := by kernel_rfl
theorem c13 : ((Rows.auditLimitsRow.maps == (Tryz.f4.params.toList ++ Rows.auditLimitsSpec.plain.varTypes Tryz.prog).any (Tryz.prog.mapsRec ·)) : Bool) = true := by kernel_rfl
theorem c14 : ((Rows.auditLimitsRow.ifaces == (Tryz.f4.params.toList ++ Rows.auditLimitsSpec.plain.varTypes Tryz.prog).any (Tryz.prog.ifacesRec ·)) : Bool) = true := by kernel_rfl
theorem c15 : ((Rows.auditLimitsRow.mapsOut == Tryz.prog.mapsAmong Tryz.f4.resultTypes.toList) : Bool) = true := by kernel_rfl
theorem c16 : ((Rows.auditLimitsRow.loops == (Tryz.f4.params.toList ++ Rows.auditLimitsSpec.plain.varTypes Tryz.prog).any (Tryz.prog.loopsFrom ·)) : Bool) = true := by kernel_rfl
theorem c17 : ((Rows.auditLimitsRow.wideKeys == (Tryz.f4.params.toList ++ Rows.auditLimitsSpec.plain.varTypes Tryz.prog ++ Tryz.f4.resultTypes.toList).any (Tryz.prog.wideKeysFrom ·)) : Bool) = true := by kernel_rfl
theorem c18 : (Rows.auditLimitsSpec.vars.all (Tryz.prog.varReadable ·) : Bool) = true := by kernel_rfl
theorem c19 : (Tryz.f4.resultTypes.all (fun t => Tryz.prog.readableRec t && decide (t < Tryz.prog.types.size)) : Bool) = true := by kernel_rfl
theorem c20 : ((Rows.auditLimitsRow.ifacesOut == Tryz.f4.resultTypes.toList.any (Tryz.prog.ifacesRec ·)) : Bool) = true := by kernel_rfl
theorem c21 : ((Rows.auditLimitsRow.loopsOut == Tryz.f4.resultTypes.toList.any (Tryz.prog.loopsFrom ·)) : Bool) = true := by kernel_rfl
theorem c22 : ((Rows.auditLimitsRow.plainKeys == Tryz.prog.plainKeys) : Bool) = true := by kernel_rfl
theorem c23 : (Rows.auditLimitsRow.shortTexts.isNone : Bool) = true := by kernel_rfl
theorem c24 : (Tryz.prog.stopsHeard : Bool) = true := by kernel_rfl
theorem c25 : (Tryz.prog.mayEnter : Bool) = true := by kernel_rfl
theorem c26 : ((Rows.auditLimitsRow.lifted == Tryz.prog.liftsFinal) : Bool) = true := by kernel_rfl
theorem c27 : ((Tryz.prog.make == some Rows.auditLimitsRow.make) : Bool) = true := by kernel_rfl
theorem c28 : ((Rows.auditLimitsRow.kinds == (if Rows.auditLimitsRow.domain.isEmpty then [] else Tryz.f4.params.toList.map fun t => match Tryz.prog.underlying t with | some (.int k) => some k | _ => none)) : Bool) = true := by kernel_rfl
theorem c29 : ((Rows.auditLimitsRow.pinned == Rows.auditLimitsRow.pinnedBy) : Bool) = true := by kernel_rfl
theorem c30 : ((Rows.auditLimitsRow.veiled == (Tryz.f4.params.toList ++ Rows.auditLimitsSpec.plain.varTypes Tryz.prog ++ Tryz.f4.resultTypes.toList).any (Tryz.prog.veiledRec ·)) : Bool) = true := by kernel_rfl
theorem c31 : (Rows.auditLimitsRow.veiledFits Tryz.prog Tryz.f4.params.toList (Tryz.f4.params.toList ++ Rows.auditLimitsSpec.plain.varTypes Tryz.prog ++ Tryz.f4.resultTypes.toList) : Bool) = true := by kernel_rfl
set_option maxRecDepth 100000 in
theorem closed : joinedFacts Tryz.prog 4 Tryz.f4 Rows.auditLimitsSpec Rows.auditLimitsRow = true := by
  unfold joinedFacts
  exact andI (andI (andI (andI (andI (andI (andI (andI (andI (andI (andI (andI (andI (andI (andI (andI (andI (andI (andI (andI (andI (andI (andI (andI (andI (andI (andI (andI (andI (andI (andI (c0) c1) c2) c3) c4) c5) c6) c7) c8) c9) c10) c11) c12) c13) c14) c15) c16) c17) c18) c19) c20) c21) c22) c23) c24) c25) c26) c27) c28) c29) c30) c31
theorem named' : Tryz.prog.funcNamed Rows.auditLimitsRow.func = some 4 := by kernel_rfl
theorem inst : Tryz.f4.isInstance Tryz.prog Rows.auditLimitsRow.origin Rows.auditLimitsRow.targs := of_decide_eq_true (by kernel_rfl)
theorem wrap : Tryz.f4.isWrapper Tryz.prog Rows.auditLimitsRow.wrapper Rows.auditLimitsRow.mainSum := by unfold Func.isWrapper; first | (rw [if_pos (by decide +kernel)]; kernel_rfl) | (rw [if_neg (by decide +kernel)]; exact ⟨rfl, rfl⟩)
/-- the statement -/
theorem proved : Rows.AuditLimitsSaid :=
  OpenClaim.holds_of_wide 4 Tryz.f4 rfl rfl rfl rfl rfl rfl rfl ⟨rfl, rfl, rfl, rfl, rfl⟩ rfl rfl rfl rfl rfl named' Tryz.func4 closed inst wrap
    (fun os started H enc _ => lifted os started H enc)
#print axioms proved
end Go.Proofs.YtllhopbilpdpkaaGreat.auditLimitsDone

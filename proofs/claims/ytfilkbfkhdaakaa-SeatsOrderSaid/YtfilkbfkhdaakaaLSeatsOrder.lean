/- The law SeatsOrder: whatever the input, it returns true and leaves it as it was. Conditions: none. -/
import Derived.Test.YtfilkbfkhdaakaaFw
import Derived.Test.YtfilkbfkhdaakaaTK
set_option linter.unusedVariables false
set_option linter.unusedSimpArgs false
namespace Go.Proofs.Ytfilkbfkhdaakaa.seatsOrderDone
open Go.ChangeShapes Go.WideShapes Go.ChangeAt Go.RowKit Go.X Go.Joins
set_option maxRecDepth 100000 in
theorem lifted (os : Os) (started : os.Started) (H : Type) (enc : TypeId × Value → H) :
    ReturnsInHanded {} Try.checked os 3 .any (Rows.seatsOrderSpec.pre6 enc Try.prog Try.f3 Rows.seatsOrderRow.domain false) (Rows.seatsOrderSpec.post enc Try.prog Try.f3 false true false false) := by
  refine returnsInHanded_of_change (C := Try.checked) own started (by kernel_rfl) Try.func3
    (ChangeSpec.witness6 (enc := enc) (C := Try.checked) false ⟨#[], #[.int .u64 0, .int .i64 0], []⟩ 8 (by kernel_rfl) (by kernel_rfl) (by kernel_rfl) (by kernel_rfl)) ?_
  intro W base args ds gs before hval0 hW hcnd _
  have hval : ∀ (j : Nat) t v, Try.f3.params[j]? = some t → args[j]? = some v → Value.okWide Try.prog W .any base t v := hval0
  have hW' := hW
  obtain ⟨p, q, hA0, hV, rfl, hfz, hnd⟩ := hW
  have hA : DataW.TrodAll enc Try.prog W 0 (fun _ => true) true Try.f3.params.toList args.toList ds p := hA0
  rw [Try.params3] at hA hval
  obtain ⟨v0, vs0, d0, ds0, p0, q0, hargs, rfl, rfl, h0, r0⟩ := trodAll_cons hA
  obtain ⟨v1, vs1, d1, ds1, p1, q1, rfl, rfl, rfl, h1, r1⟩ := trodAll_cons r0
  obtain ⟨rfl, rfl, rfl⟩ := trodAll_nil r1
  obtain rfl : args = #[v0, v1] := by cases args; simp_all
  obtain ⟨rfl, rfl⟩ := trodVars_none hV
  have lt0 : ∀ x ∈ p0, x.block < W.heap.size := by obtain ⟨m, hm⟩ := h0; exact DataW.trod_lt m _ _ _ hm
  have lt1 : ∀ x ∈ p1, x.block < W.heap.size := by obtain ⟨m, hm⟩ := h1; exact DataW.trod_lt m _ _ _ hm
  obtain ⟨c0, rfl, e0⟩ := u64_world (hval 0 _ v0 rfl rfl) h0
  obtain ⟨c1, rfl, e1⟩ := int_world (hval 1 _ v1 rfl rfl) h1
  clear hA0 hval0
  refine ((seatsorder_any (K := fun v _ _ => v = .bool true) (L := []) c0 c1 e0 e1 fun _ _ => rfl).calls ⟨Try.f3, Try.func3, by decide +kernel, rfl⟩).mono fun e W' ⟨he, bel⟩ => ?_
  subst he
  exact ⟨_, rfl, _, _, _, [], _, [], hW', trodAll_mk1 (shut_bool Try.underlying4 _), (trodAll_cons_mk (Below.trod laidOut (by kernel_rfl) (of_decide_eq_true (by kernel_rfl)) h0 bel lt0) (trodAll_cons_mk (Below.trod laidOut (by kernel_rfl) (of_decide_eq_true (by kernel_rfl)) h1 bel lt1) trodAll_mk0)), rfl, bel.frame _, fun h => by cases h⟩

theorem andI {a b : Bool} (h1 : a = true) (h2 : b = true) : (a && b) = true := by rw [h1, h2]; rfl
theorem c0 : (Rows.seatsOrderRow.wf (OpenSpec.ofChange Rows.seatsOrderSpec) : Bool) = true := by kernel_rfl
theorem c1 : (laidOutB Try.prog : Bool) = true := by kernel_rfl
theorem c2 : (mapsRowed Try.prog : Bool) = true := by kernel_rfl
theorem c3 : (Try.f3.params.all (Try.prog.readableRec ·) : Bool) = true := by kernel_rfl
theorem c4 : (namedTie Try.prog Rows.seatsOrderRow.named Rows.seatsOrderSpec.vars : Bool) = true := by kernel_rfl
theorem c5 : ((Rows.seatsOrderRow.stops == []) : Bool) = true := by kernel_rfl
theorem c6 : ((Try.prog.stops == []) : Bool) = true := by kernel_rfl
theorem c7 : ((Rows.seatsOrderRow.knobs == []) : Bool) = true := by kernel_rfl
theorem c8 : ((Try.prog.stopKnobs == []) : Bool) = true := by kernel_rfl
theorem c9 : ((Rows.seatsOrderRow.inPlace == Try.prog.inPlace 3) : Bool) = true := by kernel_rfl
theorem c10 : ((Rows.seatsOrderRow.unfollowed == Try.prog.unfollowed 3) : Bool) = true := by kernel_rfl
theorem c11 : ((Rows.seatsOrderRow.recurses == Try.prog.recurses 3) : Bool) = true := by kernel_rfl
theorem c12 : ((Rows.seatsOrderRow.named == Try.prog.varsNamed 3) : Bool) = true := by kernel_rfl
theorem c13 : ((Rows.seatsOrderRow.maps == (Try.f3.params.toList ++ Rows.seatsOrderSpec.plain.varTypes Try.prog).any (Try.prog.mapsRec ·)) : Bool) = true := by kernel_rfl
theorem c14 : ((Rows.seatsOrderRow.ifaces == (Try.f3.params.toList ++ Rows.seatsOrderSpec.plain.varTypes Try.prog).any (Try.prog.ifacesRec ·)) : Bool) = true := by kernel_rfl
theorem c15 : ((Rows.seatsOrderRow.mapsOut == Try.prog.mapsAmong Try.f3.resultTypes.toList) : Bool) = true := by kernel_rfl
theorem c16 : ((Rows.seatsOrderRow.loops == (Try.f3.params.toList ++ Rows.seatsOrderSpec.plain.varTypes Try.prog).any (Try.prog.loopsFrom ·)) : Bool) = true := by kernel_rfl
theorem c17 : ((Rows.seatsOrderRow.wideKeys == (Try.f3.params.toList ++ Rows.seatsOrderSpec.plain.varTypes Try.prog ++ Try.f3.resultTypes.toList).any (Try.prog.wideKeysFrom ·)) : Bool) = true := by kernel_rfl
theorem c18 : (Rows.seatsOrderSpec.vars.all (Try.prog.varReadable ·) : Bool) = true := by kernel_rfl
theorem c19 : (Try.f3.resultTypes.all (fun t => Try.prog.readableRec t && decide (t < Try.prog.types.size)) : Bool) = true := by kernel_rfl
theorem c20 : ((Rows.seatsOrderRow.ifacesOut == Try.f3.resultTypes.toList.any (Try.prog.ifacesRec ·)) : Bool) = true := by kernel_rfl
theorem c21 : ((Rows.seatsOrderRow.loopsOut == Try.f3.resultTypes.toList.any (Try.prog.loopsFrom ·)) : Bool) = true := by kernel_rfl
theorem c22 : ((Rows.seatsOrderRow.plainKeys == Try.prog.plainKeys) : Bool) = true := by kernel_rfl
theorem c23 : (Rows.seatsOrderRow.shortTexts.isNone : Bool) = true := by kernel_rfl
theorem c24 : (Try.prog.stopsHeard : Bool) = true := by kernel_rfl
theorem c25 : (Try.prog.mayEnter : Bool) = true := by kernel_rfl
theorem c26 : ((Rows.seatsOrderRow.lifted == Try.prog.liftsFinal) : Bool) = true := by kernel_rfl
theorem c27 : ((Try.prog.make == some Rows.seatsOrderRow.make) : Bool) = true := by kernel_rfl
theorem c28 : ((Rows.seatsOrderRow.kinds == (if Rows.seatsOrderRow.domain.isEmpty then [] else Try.f3.params.toList.map fun t => match Try.prog.underlying t with | some (.int k) => some k | _ => none)) : Bool) = true := by kernel_rfl
theorem c29 : ((Rows.seatsOrderRow.pinned == Rows.seatsOrderRow.pinnedBy) : Bool) = true := by kernel_rfl
theorem c30 : ((Rows.seatsOrderRow.veiled == (Try.f3.params.toList ++ Rows.seatsOrderSpec.plain.varTypes Try.prog ++ Try.f3.resultTypes.toList).any (Try.prog.veiledRec ·)) : Bool) = true := by kernel_rfl
theorem c31 : (Rows.seatsOrderRow.veiledFits Try.prog Try.f3.params.toList (Try.f3.params.toList ++ Rows.seatsOrderSpec.plain.varTypes Try.prog ++ Try.f3.resultTypes.toList) : Bool) = true := by kernel_rfl
set_option maxRecDepth 100000 in
theorem closed : joinedFacts Try.prog 3 Try.f3 Rows.seatsOrderSpec Rows.seatsOrderRow = true := by
  unfold joinedFacts
  exact andI (andI (andI (andI (andI (andI (andI (andI (andI (andI (andI (andI (andI (andI (andI (andI (andI (andI (andI (andI (andI (andI (andI (andI (andI (andI (andI (andI (andI (andI (andI (c0) c1) c2) c3) c4) c5) c6) c7) c8) c9) c10) c11) c12) c13) c14) c15) c16) c17) c18) c19) c20) c21) c22) c23) c24) c25) c26) c27) c28) c29) c30) c31
theorem named' : Try.prog.funcNamed Rows.seatsOrderRow.func = some 3 := by kernel_rfl
theorem inst : Try.f3.isInstance Try.prog Rows.seatsOrderRow.origin Rows.seatsOrderRow.targs := of_decide_eq_true (by kernel_rfl)
theorem wrap : Try.f3.isWrapper Try.prog Rows.seatsOrderRow.wrapper Rows.seatsOrderRow.mainSum := by unfold Func.isWrapper; first | (rw [if_pos (by decide +kernel)]; kernel_rfl) | (rw [if_neg (by decide +kernel)]; exact ⟨rfl, rfl⟩)
/-- the statement -/
theorem proved : Rows.SeatsOrderSaid :=
  OpenClaim.holds_of_wide 3 Try.f3 rfl rfl rfl rfl rfl rfl rfl ⟨rfl, rfl, rfl, rfl, rfl⟩ rfl rfl rfl rfl rfl named' Try.func3 closed inst wrap
    (fun os started H enc _ => lifted os started H enc)
#print axioms proved
end Go.Proofs.Ytfilkbfkhdaakaa.seatsOrderDone

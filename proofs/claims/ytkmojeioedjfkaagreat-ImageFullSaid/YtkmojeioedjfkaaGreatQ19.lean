/- Lemmas and contracts for a statement about the given program. Conditions: as each says. -/
import Derived.Test.YtkmojeioedjfkaaGreatQ04
set_option linter.unusedVariables false
set_option linter.unusedSimpArgs false
set_option maxHeartbeats 12800000
set_option maxRecDepth 20000
namespace Go.X
open Go.RowKit
section
variable {P : Program} {L : Own} {h : PH} {E : Env} {K : PK} {l : Nat} {rec : LoopState → Option Code → Obj}
@[go_sem ↓] theorem roundQ_normal : roundQ l rec K .normal E L h = finY K true l (rec .ready none) L h := rfl
@[go_sem ↓] theorem roundQ_ret : roundQ l rec K .ret E L h = finY K false l (rec .done (some .ret)) L h := rfl
@[go_sem ↓] theorem roundQ_exit (id : Nat) : roundQ l rec K (.exit id) E L h = finY K false l (rec .done (some (.exit id))) L h := rfl
@[go_sem ↓] theorem bindE_cons (p : Tmp) (ps : List Tmp) (v : Value) (vs : List Value) : bindE (p :: ps) (v :: vs) E = bindE ps vs ((p, v) :: E) := rfl
@[go_sem ↓] theorem bindE_nil (vs : List Value) : bindE [] vs E = E := by cases vs <;> rfl
end
theorem YSpec.apn {P : Program} {l : Nat} {args : List Value} {L : Own} {h : PH} {K : PK} (hs : YSpec P l args L h fun v L' h' => Ap L' h' → Nd L' → K v L' h') : YSpec P l args L h K :=
 ⟨trivial, fun W hg => by
  obtain ⟨fn, tmps, assign, body, hy, hR⟩ := hs.2 W hg
  exact ⟨fn, tmps, assign, body, hy, hR.mono fun _ _ ⟨r, L', h', e, k, st⟩ => ⟨r, L', h', e, k (Ap.of st.1.apart) (Nd.of st.1.nodup), st⟩⟩⟩
theorem Ap.app {h : PH} : ∀ {A B : Own}, Ap (A ++ B) h → Ap A h ∧ Ap B h
 | [], _, hb => ⟨trivial, hb⟩
 | _ :: _, _, ha => ⟨⟨ha.1, (Ap.app ha.2).1⟩, (Ap.app ha.2).2⟩
@[go_sem ↓] theorem xJump_none {Q : Post} {E : Env} {L : Own} {h : PH} : xJump Q E L h none = Q .normal E L h := rfl
@[go_sem ↓] theorem xJump_ret {Q : Post} {E : Env} {L : Own} {h : PH} : xJump Q E L h (some .ret) = Q .ret E L h := rfl
@[go_sem ↓] theorem xJump_exit {Q : Post} {E : Env} {L : Own} {h : PH} (id : Nat) : xJump Q E L h (some (.exit id)) = Q (.exit id) E L h := rfl
theorem apart_oent {b e sz : Nat} {o : Option (Nat × Nat)} {xs : List Value} {L : Own} (ha : Apart b (oent e sz o xs L)) : Apart b L := by
 cases o with
 | none => exact ha
 | some p => exact ha.2
theorem pubO_noC {h : PH} {o : Option (Nat × Nat)} {xs : List Value} {b : Nat} (hb : apB o b) (hh : h b = noC) : pubO h o xs b = noC := by
 cases o with
 | none => exact hh
 | some p =>
  have : p.1 ≠ b := hb
  funext i
  simp only [pubO, pub, if_neg (Ne.symm this), hh]
end Go.X

/- Lemmas and contracts for a statement about the given program. Conditions: as each says. -/
import Derived.Laws.BytesArg
import Derived.Test.YtkmojeioedjfkaaGreatQ09
set_option linter.unusedVariables false
set_option linter.unusedSimpArgs false
set_option maxHeartbeats 12800000
set_option maxRecDepth 20000
namespace Go.X
open Go.RowKit Go.Bl
section
variable {P : Program}
def strB (xs : List Int) : ByteArray := ⟨(xs.map fun n => UInt8.ofNat n.toNat).toArray⟩
theorem xconv_str {src dst e : TypeId} (hs : P.underlying src = some (.slice e)) (he : P.underlying e = some (.int .u8)) (hd : P.underlying dst = some .string) {v : Value} {xs : List Int} {L : Own} {h : PH} {K : Value → Prop} (hx : Ints h .u8 v xs) (hk : K (.string (strB xs))) : xAsk P (convert src dst v) L h K := by
 obtain ⟨a, ca, rfl, _, _, hn, hc⟩ := hx.open
 refine ⟨_, fun W hg => ?_, hk⟩
 cases a with
 | none =>
  have : xs = [] := List.eq_nil_of_length_eq_zero (by have := hn rfl; omega)
  subst this
  rw [run_convert_bytes_nil W src e hs he _ _ dst hd]
  rfl
 | some q =>
  rw [run_convert_bytes_string W src dst e _ _ _ hs he hd]
  have hcs : xCells L h (elem (some q) 0) 0 xs.length fun vs => vs = xs.map (Value.int .u8) := by
   rw [xCells_elem xs.length 0 (xs.map (Value.int .u8)) _ (by simp) fun m hm => by
    rw [Nat.zero_add, Nat.zero_add, hc m hm]
    simp [at0, List.getD, hm]]
  have e0 : elem (some q) 0 = some q := by simp [elem, Addr.add]
  rw [e0] at hcs
  obtain ⟨vs, rfl, hr⟩ := xCells_sound (P := P) hcs
  have hl : (loadCells q xs.length).run P W = .ok (xs.map (Value.int .u8)).toArray W := by
   have := hr W #[] hg
   simpa [loadCells] using this
  rw [run_bytesToString W q _ _ xs hl, foldl_push_bytes]
  simp [strB, ByteArray.empty, ByteArray.emptyWithCapacity]
  rfl
theorem xBin_nestr {T : Nat} (x y : Operand) (a b : ByteArray) (K : Value → Prop) (t : Tok K) : xBin P .neq T x y (.string a) (.string b) K t = K (.bool (!(a.toList == b.toList))) :=
 xRun_of (fun W => by simp [eqGuard, binOp, Op.stringOp, bne]) K
theorem xBin_eqstr {T : Nat} (x y : Operand) (a b : ByteArray) (K : Value → Prop) (t : Tok K) : xBin P .eql T x y (.string a) (.string b) K t = K (.bool (a.toList == b.toList)) :=
 xRun_of (fun W => by simp [eqGuard, binOp, Op.stringOp]) K
end
end Go.X

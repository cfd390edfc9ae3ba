/- Strings and bytes: the conversion of a string that is written out, bytes to a string, two strings compared. Conditions: as each lemma says. -/
import Derived.Test.YtfilkbfkhdaakaaGreatXF
import Derived.Laws.BytesArg
set_option linter.unusedVariables false
set_option linter.unusedSimpArgs false
namespace Go.X
open Go.RowKit Go.Bl
section
variable {P : Program}
theorem xconv_const {T e : TypeId} (ht : P.underlying T = some (.slice e)) (he : P.underlying e = some (.int .u8)) {b t cap n c : Nat} {cs : List Value} {L : Own} {h : PH} {K : PK} (hb : h b = noC)
    (hk : ∀ h', PH.le h h' → h' = pub h b cs → K (.slice (some ⟨b, 0, none⟩) n c) L h') (hT : t ≠ 4294967295 := by first | decide | omega) : xAct P (convert T T (.slice (some ⟨b, 0, none⟩) n c)) (⟨b, t, cs, cap⟩ :: L) h K := by
  intro W hg
  obtain ⟨full, f1, f2, f3⟩ := (hg.own ⟨b, t, cs, cap⟩ (by simp)).cells hT
  simp only at f1 f2 f3
  have hb' : b < W.heap.size := by
    rcases Nat.lt_or_ge b W.heap.size with h3 | h3
    · exact h3
    · rw [Array.getElem?_eq_none h3] at f1; cases f1
  have hsh : W.shape? b = some (t, full.size) := by unfold World.shape?; rw [f1]
  have hrun : (convert T T (.slice (some ⟨b, 0, none⟩) n c)).run P W = .ok (.slice (some ⟨b, 0, none⟩) n c) (W.freeze ⟨b, full.size, none⟩ 1) := by
    simp [convert, run_underlying ht, run_underlying he, markStringish, hsh]
  have hheap : ∀ k, k ≠ b → (W.freeze ⟨b, full.size, none⟩ 1).heap[k]? = W.heap[k]? := fun k hk => by
    unfold World.freeze
    rw [if_neg (by decide)]
    simp only [Array.getElem?_modify]
    rw [if_neg (Ne.symm hk)]
  have hhb : (W.freeze ⟨b, full.size, none⟩ 1).heap[b]? = some (.cells full t (full.size, full.size + 1)) := by
    unfold World.freeze
    rw [if_neg (by decide)]
    simp [Array.getElem?_modify, f1]
  have hcell : ∀ b' o, (W.freeze ⟨b, full.size, none⟩ 1).cell? ⟨b', o, none⟩ = W.cell? ⟨b', o, none⟩ := fun b' o => by
    by_cases e : b' = b
    · subst e
      simp only [World.cell?, hhb, f1]
    · simp only [World.cell?, hheap b' e]
  obtain ⟨g, f⟩ := pub_drop b t cap cs L h hT W hg
  have hnd := hg.nodup
  simp only [List.map_cons, List.nodup_cons] at hnd
  have hne : ∀ x ∈ L, x.b ≠ b := fun x hx hxb => hnd.1 (by rw [← hxb]; exact List.mem_map_of_mem hx)
  refine ⟨_, L, pub h b cs, _, hrun, hk _ (pub_le hb cs) rfl, ⟨⟨fun b' o v hv => ?_, fun x hx => ?_, g.nodup, g.apart⟩, ⟨?_, ?_, ?_, ?_, fun k hk hM => hheap k fun e => hM (by rw [e]; simp)⟩, fun x hx => Or.inl (by simp; exact Or.inr ⟨x, hx, rfl⟩)⟩⟩
  · rw [hcell]; exact g.sub b' o v hv
  · rw [hheap _ (hne x hx)]; exact g.own x hx
  · unfold World.freeze; rw [if_neg (by decide)]
  · unfold World.freeze; rw [if_neg (by decide)]
  · unfold World.freeze; rw [if_neg (by decide)]
  · unfold World.freeze; rw [if_neg (by decide)]; simp
def strB (xs : List Int) : ByteArray := ⟨(xs.map fun n => UInt8.ofNat n.toNat).toArray⟩
theorem xconv_str {src dst e : TypeId} (hs : P.underlying src = some (.slice e)) (he : P.underlying e = some (.int .u8)) (hd : P.underlying dst = some .string) {v : Value} {xs : List Int} {L : Own} {h : PH} {K : Value → Prop} (hx : Ints h .u8 v xs) (hk : K (.string (strB xs))) : xAsk P (convert src dst v) L h K := by
  obtain ⟨a, ca, rfl, _, _, hn, hc⟩ := hx.open
  refine ⟨_, fun W hg => ?_, hk⟩
  cases a with
  | none =>
    have : xs = [] := List.eq_nil_of_length_eq_zero (by have := hn rfl; omega)
    subst this
    rw [run_convert_bytes_nil W src e hs he _ _ dst hd]
    rfl
  | some q =>
    rw [run_convert_bytes_string W src dst e _ _ _ hs he hd]
    have hcs : xCells L h (elem (some q) 0) 0 xs.length fun vs => vs = xs.map (Value.int .u8) := by
      rw [xCells_elem xs.length 0 (xs.map (Value.int .u8)) _ (by simp) fun m hm => by
        rw [Nat.zero_add, Nat.zero_add, hc m hm]
        simp [at0, List.getD, hm]]
    have e0 : elem (some q) 0 = some q := by simp [elem, Addr.add]
    rw [e0] at hcs
    obtain ⟨vs, rfl, hr⟩ := xCells_sound (P := P) hcs
    have hl : (loadCells q xs.length).run P W = .ok (xs.map (Value.int .u8)).toArray W := by
      have := hr W #[] hg
      simpa [loadCells] using this
    rw [run_bytesToString W q _ _ xs hl, foldl_push_bytes]
    simp [strB, ByteArray.empty, ByteArray.emptyWithCapacity]
    rfl
theorem xBin_nestr {T : Nat} (x y : Operand) (a b : ByteArray) (K : Value → Prop) (t : Tok K) : xBin P .neq T x y (.string a) (.string b) K t = K (.bool (!(a.toList == b.toList))) :=
  xRun_of (fun W => by simp [eqGuard, binOp, Op.stringOp, bne]) K
theorem xBin_eqstr {T : Nat} (x y : Operand) (a b : ByteArray) (K : Value → Prop) (t : Tok K) : xBin P .eql T x y (.string a) (.string b) K t = K (.bool (a.toList == b.toList)) :=
  xRun_of (fun W => by simp [eqGuard, binOp, Op.stringOp]) K
end
end Go.X

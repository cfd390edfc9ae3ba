/- Lemmas and contracts for a statement about the given program. Conditions: as each says. -/
import Derived.Laws.Externs
import Derived.Lib.AppendZerosOnto
import Derived.Lib.Overlaps
import Derived.Test.YtmkekhodcacfbaaGreatQ01
import Derived.Test.YtmkekhodcacfbaaGreatQ04
import Derived.Test.YtmkekhodcacfbaaGreatQ19
set_option linter.unusedVariables false
set_option linter.unusedSimpArgs false
set_option maxHeartbeats 12800000
set_option maxRecDepth 20000
namespace Go.X
open Go.RowKit
section
variable {P : Program}
theorem drop_take (b t cap m : Nat) (cs : List Value) (L : Own) (h : PH) (ht : t ≠ 4294967295 := by first | decide | omega) : Drop (⟨b, t, cs, cap⟩ :: L) h (⟨b, t, cs.take m, cap⟩ :: L) h := fun W hg =>
 ⟨⟨hg.sub, fun e he => by
  rcases List.mem_cons.1 he with rfl | he
  ·obtain ⟨full, f1, f2, f3⟩ := (hg.own ⟨b, t, cs, cap⟩ (by simp)).cells ht
   refine .mk ht ⟨full, f1, f2, fun i v hv => f3 i v ?_⟩
   simp only [List.getElem?_take] at hv
   split at hv
   ·exact hv
   ·cases hv
  ·exact hg.own e (by simp [he]), hg.nodup, fun e he => by
  rcases List.mem_cons.1 he with rfl | he
  ·exact hg.apart ⟨b, t, cs, cap⟩ (by simp)
  ·exact hg.apart e (by simp [he])⟩, fun e he => by
  rcases List.mem_cons.1 he with rfl | he
  ·simp
  ·simp; exact Or.inr ⟨e, he, rfl⟩⟩
theorem own_cell {L : Own} {h : PH} {W : World} (hg : Good L h W) {b t cap o : Nat} {cs : List Value} (hm : (⟨b, t, cs, cap⟩ : Blk) ∈ L) (ht : t ≠ 4294967295) {j : Nat} {u : Value} (hj : cs[o + j]? = some u) : W.cell? ((⟨b, o, none⟩ : Addr).add j) = some u := by
 obtain ⟨full, h1, _, h3⟩ := (hg.own _ hm).cells ht
 rw [add_none]
 have := h3 (o + j) u hj
 simp only [World.cell?]
 simp only at h1
 rw [h1]
 simpa using this
theorem zero_rep (z0 : Value) (n : Nat) : (Builtin.zeroCells #[z0] n).toList = List.replicate n z0 := by
 apply List.ext_getElem?
 intro i
 simp only [Builtin.zeroCells, Array.toList_map, Array.toList_range, List.getElem?_map, List.getElem?_replicate]
 by_cases h : i < n
 ·simp [h, Nat.mod_one]
 ·simp [h]
theorem xclear {t ty e : Nat} {ti : TI} {z0 : Value} (ht : P.underlying t = some (.slice e)) (hti : tI P e = some ti) (hz : ti.zero = [z0]) {L : Own} {h : PH} {K : PK} {b o n cap : Nat} (h0 : 0 < n) (hk : xSet L b o (List.replicate n z0) fun L' => K (.tuple #[]) L' h) :
  xAct P (Builtin.clear_ #[t] ty #[.slice (some ⟨b, o, none⟩) n cap]) L h K := by
 intro W hg
 obtain ⟨i, d, zv, g1, g2, g3, rfl⟩ := tI_some hti
 have hzv : zv.cells = #[z0] := by apply Array.ext'; exact hz
 obtain ⟨L', W', hK, hrun, hgd, hkp, hmm, hbm⟩ := xSet_sound (P := P) hg hk
 refine ⟨.tuple #[], L', h, W', ?_, hK, ⟨hgd, Kept.mono hkp (fun x hx => by simp at hx; subst hx; exact hbm), fun x hx => Or.inl (by rw [← hmm]; exact List.mem_map_of_mem hx)⟩⟩
 obtain ⟨n, rfl⟩ : ∃ n', n = n' + 1 := ⟨n - 1, by omega⟩
 have g3' : i.zero = some zv := g3
 have hz2 := zero_rep z0 (n + 1)
 simp [Builtin.clear_, run_underlying ht, zeroValue, typeInfo, g1, g3', hzv, hz2, hrun]
theorem xSl_lo {T e sz by' : Nat} (hT : tSh P T = .sl e sz by') (a : Option Addr) (n c : Nat) (k : IntKind) (i : Int) (h0 : 0 ≤ i) (h1 : i ≤ (n : Int)) (K : Value → Prop) : xSl P T (.slice a n c) (some (.int k i)) none none K = K (.slice (cutA a c i.toNat sz) (n - i.toNat) (c - i.toNat)) := by
 unfold tSh at hT
 split at hT
 ·rename_i e' hu
  split at hT
  ·rename_i ii hi
   refine xRun_of (fun W => ?_) K
   injection hT with hT1 hT2 hT3
   subst hT2
   simp [Instr.sliceAt, Instr.slice, Instr.sliceBounds, Instr.sliceBound, asIntOf, underlying, hu, run_sizeOf hi, h0, h1, cutA]
   try (intro hh; omega)
  ·cases hT
 ·split at hT <;> cases hT
 ·cases hT
theorem nodup_inj : ∀ {L : Own}, (L.map Blk.b).Nodup → ∀ x ∈ L, ∀ y ∈ L, x.b = y.b → x = y
 | [], _, _, hx, _, _, _ => by cases hx
 | e :: L, hn, x, hx, y, hy, hb => by
  simp only [List.map_cons, List.nodup_cons] at hn
  rcases List.mem_cons.1 hx with e1 | hx1 <;> rcases List.mem_cons.1 hy with e2 | hy1
  ·rw [e1, e2]
  ·exact absurd (by rw [← e1, hb]; exact List.mem_map_of_mem hy1) hn.1
  ·exact absurd (by rw [← e2, ← hb]; exact List.mem_map_of_mem hx1) hn.1
  ·exact nodup_inj hn.2 x hx1 y hy1 hb
theorem Spec.frame1 {f : FuncId} {args : List Value} {L : Own} {h : PH} {K : PK} {x : Blk} {r : Value} (hx : x ∈ L) (hs : Spec P f args [x] h fun v L' h' => v = r ∧ L' = [x] ∧ h' = h) (hk : K r L h) : Spec P f args L h K := by
 refine ⟨trivial, fun W hg => ?_⟩
 obtain ⟨g1, _⟩ := Drop.mem hx W hg
 refine (hs.2 W g1).mono fun e W' hh => ?_
 obtain ⟨v, L2, h2, e1, ⟨hv, hL, hH⟩, st⟩ := hh
 subst hv hL hH
 obtain ⟨g2, kp, _⟩ := st
 refine ⟨v, L, h2, e1, hk, ⟨g2.sub, fun e he => ?_, hg.nodup, hg.apart⟩, ⟨kp.os, kp.tape, kp.output, kp.size, fun k hk' hM => kp.block k hk' fun hm => hM ?_⟩, fun e he => Or.inl (List.mem_map_of_mem he)⟩
 ·by_cases hb : e.b = x.b
  ·have : e = x := nodup_inj hg.nodup e he x hx hb
   rw [this]
   exact g2.own x (by simp)
  ·rw [kp.block _ (own_lt hg he) (by simpa using hb)]
   exact hg.own e he
 ·simp only [List.map_cons, List.map_nil, List.mem_singleton] at hm
  rw [hm]
  exact List.mem_map_of_mem hx
theorem drop_left (A B : Own) (h : PH) : Drop (A ++ B) h A h := fun W hg =>
 ⟨⟨hg.sub, fun e he => hg.own e (List.mem_append_left _ he), (List.nodup_append.1 (by simpa using hg.nodup : (A.map Blk.b ++ B.map Blk.b).Nodup)).1, fun e he => hg.apart e (List.mem_append_left _ he)⟩, fun e he => List.mem_map_of_mem (List.mem_append_left _ he)⟩
end
end Go.X

/- Lemmas and contracts for a statement about the given program. Conditions: as each says. -/
import Derived.Test.YtpgdjcaifeapgaaGreatQ01
import Derived.Test.YtpgdjcaifeapgaaGreatQ04
set_option linter.unusedVariables false
set_option linter.unusedSimpArgs false
set_option maxHeartbeats 12800000
set_option maxRecDepth 20000
namespace Go.X
open Go.RowKit
theorem xcopy {P : Program} {t ty e sz : Nat} {ti : TI} (ht : P.underlying t = some (.slice e)) (hti : tI P e = some ti) (hz1 : ti.size = sz) {L : Own} {h : PH} {K : PK} {b o n cap m : Nat} {src : Value} {news : List Value}
  (hs : Src L h src m news) (hnl : news.length = m * sz) (hmn : m ≤ n) (hk : xSet L b o news fun L' => K (.int .i64 m) L' h) :
  xAct P (Builtin.copy_ #[t, t] ty #[.slice (some ⟨b, o, none⟩) n cap, src]) L h K := by
 intro W hg
 obtain ⟨L', W', hK, hrun, hgd, hkp, hm, hbm⟩ := xSet_sound (P := P) hg hk
 obtain ⟨i, d, zv, g1, g2, g3, rfl⟩ := tI_some hti
 simp only at hz1
 refine ⟨.int .i64 m, L', h, W', ?_, hK, ⟨hgd, Kept.mono hkp (fun x hx => by simp at hx; subst hx; exact hbm), fun x hx => Or.inl (by rw [← hm]; exact List.mem_map_of_mem hx)⟩⟩
 have hmin : Nat.min m n = m := Nat.min_eq_left hmn
 rcases hs with ⟨rfl, rfl, rfl⟩ | ⟨a, c, rfl, hcells⟩
 ·simp [Builtin.copy_, run_underlying ht, Builtin.lenOf, Builtin.firstCells, sizeOf, typeInfo, g1, hrun, goInt]
 ·have hl := run_loadCells_list (P := P) W a news (hcells W hg)
  rw [hnl, ← hz1] at hl
  simp [Builtin.copy_, run_underlying ht, Builtin.lenOf, Builtin.firstCells, sizeOf, typeInfo, g1, hmin, hl, hrun, goInt]
def NeB (a b : Nat) : Prop := a ≠ b
theorem NeB.symm {a b : Nat} (h : NeB a b) : NeB b a := Ne.symm h
section
variable {L : Own} {K : Value → Prop}
@[go_sem ↓] theorem xFind_missB (b b' ty o c : Nat) (cs : List Value) (hne : NeB b' b) : xFind (⟨b', ty, cs, c⟩ :: L) b o K = xFind L b o K := xFind_miss b b' ty o c cs hne
@[go_sem ↓] theorem xSet_missB (b b' ty o c : Nat) (cs vs : List Value) (K : Own → Prop) (hne : NeB b' b) (t : Tok K) : xSet (⟨b', ty, cs, c⟩ :: L) b o vs K t = xSet L b o vs fun L' => K (⟨b', ty, cs, c⟩ :: L') := xSet_miss b b' ty o c cs vs K hne
end
end Go.X

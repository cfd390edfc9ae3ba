/- Lemmas and contracts for a statement about the given program. Conditions: as each says. -/
import Derived.Test.YtmkekhodcacfbaaGreatQ07
import Derived.Test.YtmkekhodcacfbaaGreatQ24
import Derived.Test.YtmkekhodcacfbaaGreatQ33
set_option linter.unusedVariables false
set_option linter.unusedSimpArgs false
set_option maxHeartbeats 12800000
set_option maxRecDepth 20000
namespace Go.X
open Go.RowKit Go.Proofs Go.Bl
variable {L : Own} {h : PH} {K : PK}
theorem sumK_sumS (zs : List Int) : ∀ k, k ≤ zs.length → sumK zs k = (zs.take k).sum
 | 0, _ => by simp [sumK]
 | k + 1, hk => by
  rw [sumK, sumK_sumS zs k (by omega), List.take_succ_eq_append_getElem hk, List.sum_append, at0_lt hk]
  simp
theorem tot_sumS (zs : List Int) : tot zs = zs.sum := by
 rw [tot, sumK_sumS zs _ (Nat.le_refl _), List.take_length]
theorem tot_colS {p : SlD → Int} {l : List SlD} {k : Nat} (hk : k < l.length) : tot (colC p l (k + 1)) = tot (colC p l k) + p (gr zeroSl l k) := by
 rw [colC_succ hk, tot_sumS, tot_sumS, List.sum_append]
 simp
theorem colC_0 {p : SlD → Int} {l : List SlD} : tot (colC p l 0) = 0 := by simp [colC, tot, sumK]
def cN (p : SlD → Int) (l : List SlD) (k : Nat) (b : Bool) : Int := if b then tot (colC p l (k + 1)) else tot (colC p l k)
def cM (k : Nat) (b : Bool) : Nat := if b then 22 + k else 21 + k
theorem gr_ok {l : List SlD} (hp : ∀ x ∈ l, SlOk x) {k : Nat} (hk : k < l.length) : SlOk (gr zeroSl l k) := by
 rw [gr_lt hk]; exact hp _ (List.getElem_mem _)
theorem fin5 {b : Nat} {a0 a1 a2 a3 a4 e : Int} (hb : h b = noC) (h0 : ∀ z ∈ [a0, a1, a2, a3, a4], 0 ≤ z ∧ z ≤ 18446744073709551615)
  (hk : ∀ h' r, PH.le h h' → Ints h' .u64 r [a0, a1, a2, a3, a4] → fin K (.tuple #[r, .int .i64 e]) L h') :
  fin K (.tuple #[.slice (some ⟨b, 0, none⟩) 5 5, .int .i64 e]) (⟨b, 22, [.int .u64 a0, .int .u64 a1, .int .u64 a2, .int .u64 a3, .int .u64 a4], 5⟩ :: L) h :=
 fin_pub (K := K) (v := .tuple #[.slice (some ⟨b, 0, none⟩) 5 5, .int .i64 e]) (e := 22) (sz := 1) (n := 5) (o := some (b, 5)) (xs := [.int .u64 a0, .int .u64 a1, .int .u64 a2, .int .u64 a3, .int .u64 a4]) (L := L) (L0 := []) (h := h) (show 5 ≤ 5 ∧ 5 ≤ maxLen by decide) rfl (by decide) ⟨trivial, hb⟩ fun h' le sl => hk h' _ le ⟨sl, fun z hz => by
  rw [show IntKind.u64.min = 0 by decide, show IntKind.u64.max = 18446744073709551615 by decide]
  exact h0 z hz⟩
theorem zero5 : ∀ z ∈ [(0 : Int), 0, 0, 0, 0], 0 ≤ z ∧ z ≤ 18446744073709551615 := by decide
theorem colS_ok {p : SlD → Int} {l : List SlD} (hp : ∀ x ∈ l, 0 ≤ p x) : 0 ≤ tot (l.map p) := by
 rw [tot_sumS]
 induction l with
 | nil => exact Int.le_refl 0
 | cons x xs ih =>
  have h1 := hp x List.mem_cons_self
  have h2 := ih fun y hy => hp y (List.mem_cons_of_mem _ hy)
  rw [List.map_cons, List.sum_cons]
  omega
theorem totals41_any {l : List SlD} (v : Value) (hd0 : Recs slC 8 h v l) (hl : l.length ≤ 1000) (hp : ∀ x ∈ l, SlOk x)
  (hk : totOk l → ∀ h' r, PH.le h h' → Ints h' .u64 r [tot (l.map SlD.prize), tot (l.map SlD.over), tot (l.map SlD.fine), tot (l.map SlD.burned), tot (l.map SlD.paid)] → K (.tuple #[r, .int .i64 0]) L h')
  (hno : ¬ totOk l → ∀ h' r, PH.le h h' → Ints h' .u64 r [0, 0, 0, 0, 0] → K (.tuple #[r, .int .i64 10]) L h') : Spec Tryz.prog 15 [v] L h K := by
 have hd0' := hd0
 obtain ⟨va, vc, rfl, hc, hln, _, hd⟩ := hd0.open
 refine x_enter Tryz.func15 rfl (rs := [_, _]) rfl rfl mixed (by kernel_rfl) rfl rfl ?_
 simp -dsimp -implicitDefEqProofs (disch := first|with_reducible assumption|omega) [go_sem]
 refine xMS_full (e := 136) (z := .slice none 0 0) (by kernel_rfl) tI_136 rfl rfl .i64 .i64 5 (by decide) (by decide) (by decide) ?_
 simp only [show List.replicate (5 : Int).toNat (Value.slice none 0 0) = [.slice none 0 0, .slice none 0 0, .slice none 0 0, .slice none 0 0, .slice none 0 0] from rfl, show (5 : Int).toNat = 5 from rfl]
 refine xnew fun b4 n_b4 h_b4 => ?_
 try simp only [Apart] at n_b4
 simp -dsimp -implicitDefEqProofs (disch := first|with_reducible assumption|omega) [go_sem]
 refine xloop (γ := Nat × PH × Value × Value × Value × Value × Value) (0, h, .slice none 0 0, .slice none 0 0, .slice none 0 0, .slice none 0 0, .slice none 0 0) (fun q => q.1 ≤ l.length ∧ PH.le h q.2.1 ∧ q.2.1 b4 = noC ∧ Nt q.2.1 (.agg #[q.2.2.1]) (tot (colC SlD.prize l q.1)) (21 + q.1) ∧ Nt q.2.1 (.agg #[q.2.2.2.1]) (tot (colC SlD.over l q.1)) (21 + q.1) ∧ Nt q.2.1 (.agg #[q.2.2.2.2.1]) (tot (colC SlD.fine l q.1)) (21 + q.1) ∧ Nt q.2.1 (.agg #[q.2.2.2.2.2.1]) (tot (colC SlD.burned l q.1)) (21 + q.1) ∧ Nt q.2.1 (.agg #[q.2.2.2.2.2.2]) (tot (colC SlD.paid l q.1)) (21 + q.1))
  (fun q => [(5, .int .i64 q.1), (4, .slice (some ⟨b4, 0, none⟩) 5 5), (0, .slice va l.length vc)])
  (fun q => ⟨b4, 136, [q.2.2.1, q.2.2.2.1, q.2.2.2.2.1, q.2.2.2.2.2.1, q.2.2.2.2.2.2], 5⟩ :: L) (fun q => q.2.1) (fun q => l.length - q.1) ?_ ?_ ?_ ?_
 ·simp only [colC_0]
  exact ⟨Nat.zero_le _, PH.le_refl h, h_b4, nt_zero _ _, nt_zero _ _, nt_zero _ _, nt_zero _ _, nt_zero _ _⟩
 ·simp [Ent, List.lookup, xEnv]
 ·exact Drop.refl _ _
 rintro ⟨k, h1, s0, s1, s2, s3, s4⟩ ⟨i1, i2, i3, z0, z1, z2, z3, z4⟩
 simp only at i1 i2 i3 z0 z1 z2 z3 z4 ⊢
 by_cases c1 : k < l.length
 ·have ok := gr_ok hp c1
  have hd1 := hd.up i2
  have g0 : ∀ (L : Own) (K : Value → Prop) (t : Tok K), xCell L h1 (elem va (k * 8 + 2)) 0 K t = K (.int .u64 (gr zeroSl l k).prize) := fun L K t => hd1.fld zeroSl c1 rfl L K t
  have g1 : ∀ (L : Own) (K : Value → Prop) (t : Tok K), xCell L h1 (elem va (k * 8 + 3)) 0 K t = K (.int .u64 (gr zeroSl l k).over) := fun L K t => hd1.fld zeroSl c1 rfl L K t
  have g2 : ∀ (L : Own) (K : Value → Prop) (t : Tok K), xCell L h1 (elem va (k * 8 + 4)) 0 K t = K (.int .u64 (gr zeroSl l k).fine) := fun L K t => hd1.fld zeroSl c1 rfl L K t
  have g3 : ∀ (L : Own) (K : Value → Prop) (t : Tok K), xCell L h1 (elem va (k * 8 + 5)) 0 K t = K (.int .u64 (gr zeroSl l k).burned) := fun L K t => hd1.fld zeroSl c1 rfl L K t
  have g4 : ∀ (L : Own) (K : Value → Prop) (t : Tok K), xCell L h1 (elem va (k * 8 + 7)) 0 K t = K (.int .u64 (gr zeroSl l k).paid) := fun L K t => hd1.fld zeroSl c1 rfl L K t
  simp -dsimp -implicitDefEqProofs (disch := first|with_reducible assumption|omega) [go_sem]
  refine xanyl (.tk 0 (.tk 1 (.tk 2 (.tk 3 (.tk 5 (.tk 6 (.tk 7 (.tk 8 (.tk 10 (.tk 11 (.tk 12 (.tk 13 (.tk 15 (.tk 16 (.tk 17 (.tk 18 (.tk 20 (.tk 21 (.tk 22 (.tk 23 (.tkl 4 (.tkl 9 (.tkl 14 (.tkl 19 (.tkl 24 (.or true 25 (.tk 26 (.fin)) (.nil))))))))))))))))))))))))))) (by kernel_rfl) (by kernel_rfl) _ (Drop.refl _ _) ?_
  simp -dsimp -implicitDefEqProofs (disch := first|with_reducible assumption|omega) [go_sem, ↓idxR zeroSl (by decide) hd1, g0, g1, g2, g3, g4]
  refine xnew fun b6 n_b6 h_b6 => ?_
  try simp only [Apart] at n_b6
  have n6 := n_b6.1
  clear n_b6
  simp -dsimp -implicitDefEqProofs (disch := first|with_reducible assumption|omega) [go_sem]
  refine xkp (Drop.tail _ _ _) ?_
  simp -dsimp -implicitDefEqProofs (disch := first|with_reducible assumption|omega) [go_sem]
  refine xloop (γ := Nat × PH × Value × Value × Value × Value × Value) (0, h1, s0, s1, s2, s3, s4) (fun q => q.1 ≤ 5 ∧ PH.le h q.2.1 ∧ q.2.1 b4 = noC ∧ q.2.1 b6 = noC ∧ Nt q.2.1 (.agg #[q.2.2.1]) (cN SlD.prize l k (decide (0 < q.1))) (cM k (decide (0 < q.1))) ∧ Nt q.2.1 (.agg #[q.2.2.2.1]) (cN SlD.over l k (decide (1 < q.1))) (cM k (decide (1 < q.1))) ∧ Nt q.2.1 (.agg #[q.2.2.2.2.1]) (cN SlD.fine l k (decide (2 < q.1))) (cM k (decide (2 < q.1))) ∧ Nt q.2.1 (.agg #[q.2.2.2.2.2.1]) (cN SlD.burned l k (decide (3 < q.1))) (cM k (decide (3 < q.1))) ∧ Nt q.2.1 (.agg #[q.2.2.2.2.2.2]) (cN SlD.paid l k (decide (4 < q.1))) (cM k (decide (4 < q.1))))
   (fun q => [(7, .int .i64 q.1), (6, .slice (some ⟨b6, 0, none⟩) 5 5), (5, .int .i64 k), (4, .slice (some ⟨b4, 0, none⟩) 5 5), (0, .slice va l.length vc)])
   (fun q => ⟨b6, 22, [.int .u64 (gr zeroSl l k).prize, .int .u64 (gr zeroSl l k).over, .int .u64 (gr zeroSl l k).fine, .int .u64 (gr zeroSl l k).burned, .int .u64 (gr zeroSl l k).paid], 5⟩ :: ⟨b4, 136, [q.2.2.1, q.2.2.2.1, q.2.2.2.2.1, q.2.2.2.2.2.1, q.2.2.2.2.2.2], 5⟩ :: L) (fun q => q.2.1) (fun q => 5 - q.1) ?_ ?_ ?_ ?_
  ·exact ⟨Nat.zero_le _, i2, i3, h_b6, z0, z1, z2, z3, z4⟩
  ·simp [Ent, List.lookup, xEnv]
  ·exact Drop.refl _ _
  rintro ⟨j, h2, t0, t1, t2, t3, t4⟩ ⟨j1, j2, j3, j4, y0, y1, y2, y3, y4⟩
  simp only at j1 j2 j3 j4 y0 y1 y2 y3 y4 ⊢
  have js : j = 0 ∨ j = 1 ∨ j = 2 ∨ j = 3 ∨ j = 4 ∨ j = 5 := by omega
  rcases js with rfl | rfl | rfl | rfl | rfl | rfl
  ·have x0 := ok.prize
   have e0 := tot_colS (p := SlD.prize) c1
   simp only [show ((0 : Nat) : Int) = 0 from rfl]
   simp -dsimp -implicitDefEqProofs (disch := first|with_reducible assumption|omega) [go_sem]
   refine xanyl (.tk 0 (.tk 1 (.tk 2 (.tk 3 (.tk 4 (.tk 6 (.tk 7 (.tk 8 (.tkl 5 (.tkl 9 (.or true 10 (.or true 11 (.tk 12 (.or false 13 (.fin) (.nil))) (.nil)) (.nil)))))))))))) (by kernel_rfl) (by kernel_rfl) _ (Drop.refl _ _) ?_
   simp -dsimp -implicitDefEqProofs (disch := first|with_reducible assumption|omega) [go_sem]
   refine Spec.ap (of_any _ x0.1 x0.2 fun h3 r3 le3 n3 ap => ?_)
   simp only [Ap] at ap
   clear ap
   refine xkp (Drop.forget le3) ?_
   simp -dsimp -implicitDefEqProofs (disch := first|with_reducible assumption|omega) [go_sem]
   have w0 : Nt h2 (.agg #[t0]) (tot (colC SlD.prize l k)) (21 + k) := y0
   refine Spec.ap (radd_any _ _ (w0.up le3) n3 ⟨by omega, by omega⟩ fun h4 r4 le4 n4 ap => ?_)
   simp only [Ap] at ap
   obtain ⟨a6, a4, _⟩ := ap
   rw [← e0] at n4
   have n5 := n4.more (m' := 22 + k) (by omega)
   have n6' := n5
   obtain ⟨s4, ds4, rfl, hs4, _⟩ := n6'
   obtain ⟨sa, sc, rfl, _⟩ := hs4.open
   have le24 := le3.trans le4
   refine xkp (Drop.forget le24) ?_
   simp -dsimp -implicitDefEqProofs (disch := first|with_reducible assumption|omega) [go_sem]
   refine ⟨1, h4, .slice sa ds4.length sc, t1, t2, t3, t4, ⟨by omega, j2.trans le24, a4, a6, n5, y1.up le24, y2.up le24, y3.up le24, y4.up le24⟩, by omega, by simp [Ent, List.lookup], ?_⟩
   exact Drop.refl _ _
  ·have x0 := ok.over
   have e1 := tot_colS (p := SlD.over) c1
   simp only [show ((1 : Nat) : Int) = 1 from rfl]
   simp -dsimp -implicitDefEqProofs (disch := first|with_reducible assumption|omega) [go_sem]
   refine xanyl (.tk 0 (.tk 1 (.tk 2 (.tk 3 (.tk 4 (.tk 6 (.tk 7 (.tk 8 (.tkl 5 (.tkl 9 (.or true 10 (.or true 11 (.tk 12 (.or false 13 (.fin) (.nil))) (.nil)) (.nil)))))))))))) (by kernel_rfl) (by kernel_rfl) _ (Drop.refl _ _) ?_
   simp -dsimp -implicitDefEqProofs (disch := first|with_reducible assumption|omega) [go_sem]
   refine Spec.ap (of_any _ x0.1 x0.2 fun h3 r3 le3 n3 ap => ?_)
   simp only [Ap] at ap
   clear ap
   refine xkp (Drop.forget le3) ?_
   simp -dsimp -implicitDefEqProofs (disch := first|with_reducible assumption|omega) [go_sem]
   have w0 : Nt h2 (.agg #[t1]) (tot (colC SlD.over l k)) (21 + k) := y1
   refine Spec.ap (radd_any _ _ (w0.up le3) n3 ⟨by omega, by omega⟩ fun h4 r4 le4 n4 ap => ?_)
   simp only [Ap] at ap
   obtain ⟨a6, a4, _⟩ := ap
   rw [← e1] at n4
   have n5 := n4.more (m' := 22 + k) (by omega)
   have n6' := n5
   obtain ⟨s4, ds4, rfl, hs4, _⟩ := n6'
   obtain ⟨sa, sc, rfl, _⟩ := hs4.open
   have le24 := le3.trans le4
   refine xkp (Drop.forget le24) ?_
   simp -dsimp -implicitDefEqProofs (disch := first|with_reducible assumption|omega) [go_sem]
   refine ⟨2, h4, t0, .slice sa ds4.length sc, t2, t3, t4, ⟨by omega, j2.trans le24, a4, a6, y0.up le24, n5, y2.up le24, y3.up le24, y4.up le24⟩, by omega, by simp [Ent, List.lookup], ?_⟩
   exact Drop.refl _ _
  ·have x0 := ok.fine
   have e2 := tot_colS (p := SlD.fine) c1
   simp only [show ((2 : Nat) : Int) = 2 from rfl]
   simp -dsimp -implicitDefEqProofs (disch := first|with_reducible assumption|omega) [go_sem]
   refine xanyl (.tk 0 (.tk 1 (.tk 2 (.tk 3 (.tk 4 (.tk 6 (.tk 7 (.tk 8 (.tkl 5 (.tkl 9 (.or true 10 (.or true 11 (.tk 12 (.or false 13 (.fin) (.nil))) (.nil)) (.nil)))))))))))) (by kernel_rfl) (by kernel_rfl) _ (Drop.refl _ _) ?_
   simp -dsimp -implicitDefEqProofs (disch := first|with_reducible assumption|omega) [go_sem]
   refine Spec.ap (of_any _ x0.1 x0.2 fun h3 r3 le3 n3 ap => ?_)
   simp only [Ap] at ap
   clear ap
   refine xkp (Drop.forget le3) ?_
   simp -dsimp -implicitDefEqProofs (disch := first|with_reducible assumption|omega) [go_sem]
   have w0 : Nt h2 (.agg #[t2]) (tot (colC SlD.fine l k)) (21 + k) := y2
   refine Spec.ap (radd_any _ _ (w0.up le3) n3 ⟨by omega, by omega⟩ fun h4 r4 le4 n4 ap => ?_)
   simp only [Ap] at ap
   obtain ⟨a6, a4, _⟩ := ap
   rw [← e2] at n4
   have n5 := n4.more (m' := 22 + k) (by omega)
   have n6' := n5
   obtain ⟨s4, ds4, rfl, hs4, _⟩ := n6'
   obtain ⟨sa, sc, rfl, _⟩ := hs4.open
   have le24 := le3.trans le4
   refine xkp (Drop.forget le24) ?_
   simp -dsimp -implicitDefEqProofs (disch := first|with_reducible assumption|omega) [go_sem]
   refine ⟨3, h4, t0, t1, .slice sa ds4.length sc, t3, t4, ⟨by omega, j2.trans le24, a4, a6, y0.up le24, y1.up le24, n5, y3.up le24, y4.up le24⟩, by omega, by simp [Ent, List.lookup], ?_⟩
   exact Drop.refl _ _
  ·have x0 := ok.burned
   have e3 := tot_colS (p := SlD.burned) c1
   simp only [show ((3 : Nat) : Int) = 3 from rfl]
   simp -dsimp -implicitDefEqProofs (disch := first|with_reducible assumption|omega) [go_sem]
   refine xanyl (.tk 0 (.tk 1 (.tk 2 (.tk 3 (.tk 4 (.tk 6 (.tk 7 (.tk 8 (.tkl 5 (.tkl 9 (.or true 10 (.or true 11 (.tk 12 (.or false 13 (.fin) (.nil))) (.nil)) (.nil)))))))))))) (by kernel_rfl) (by kernel_rfl) _ (Drop.refl _ _) ?_
   simp -dsimp -implicitDefEqProofs (disch := first|with_reducible assumption|omega) [go_sem]
   refine Spec.ap (of_any _ x0.1 x0.2 fun h3 r3 le3 n3 ap => ?_)
   simp only [Ap] at ap
   clear ap
   refine xkp (Drop.forget le3) ?_
   simp -dsimp -implicitDefEqProofs (disch := first|with_reducible assumption|omega) [go_sem]
   have w0 : Nt h2 (.agg #[t3]) (tot (colC SlD.burned l k)) (21 + k) := y3
   refine Spec.ap (radd_any _ _ (w0.up le3) n3 ⟨by omega, by omega⟩ fun h4 r4 le4 n4 ap => ?_)
   simp only [Ap] at ap
   obtain ⟨a6, a4, _⟩ := ap
   rw [← e3] at n4
   have n5 := n4.more (m' := 22 + k) (by omega)
   have n6' := n5
   obtain ⟨s4, ds4, rfl, hs4, _⟩ := n6'
   obtain ⟨sa, sc, rfl, _⟩ := hs4.open
   have le24 := le3.trans le4
   refine xkp (Drop.forget le24) ?_
   simp -dsimp -implicitDefEqProofs (disch := first|with_reducible assumption|omega) [go_sem]
   refine ⟨4, h4, t0, t1, t2, .slice sa ds4.length sc, t4, ⟨by omega, j2.trans le24, a4, a6, y0.up le24, y1.up le24, y2.up le24, n5, y4.up le24⟩, by omega, by simp [Ent, List.lookup], ?_⟩
   exact Drop.refl _ _
  ·have x0 := ok.paid
   have e4 := tot_colS (p := SlD.paid) c1
   simp only [show ((4 : Nat) : Int) = 4 from rfl]
   simp -dsimp -implicitDefEqProofs (disch := first|with_reducible assumption|omega) [go_sem]
   refine xanyl (.tk 0 (.tk 1 (.tk 2 (.tk 3 (.tk 4 (.tk 6 (.tk 7 (.tk 8 (.tkl 5 (.tkl 9 (.or true 10 (.or true 11 (.tk 12 (.or false 13 (.fin) (.nil))) (.nil)) (.nil)))))))))))) (by kernel_rfl) (by kernel_rfl) _ (Drop.refl _ _) ?_
   simp -dsimp -implicitDefEqProofs (disch := first|with_reducible assumption|omega) [go_sem]
   refine Spec.ap (of_any _ x0.1 x0.2 fun h3 r3 le3 n3 ap => ?_)
   simp only [Ap] at ap
   clear ap
   refine xkp (Drop.forget le3) ?_
   simp -dsimp -implicitDefEqProofs (disch := first|with_reducible assumption|omega) [go_sem]
   have w0 : Nt h2 (.agg #[t4]) (tot (colC SlD.paid l k)) (21 + k) := y4
   refine Spec.ap (radd_any _ _ (w0.up le3) n3 ⟨by omega, by omega⟩ fun h4 r4 le4 n4 ap => ?_)
   simp only [Ap] at ap
   obtain ⟨a6, a4, _⟩ := ap
   rw [← e4] at n4
   have n5 := n4.more (m' := 22 + k) (by omega)
   have n6' := n5
   obtain ⟨s4, ds4, rfl, hs4, _⟩ := n6'
   obtain ⟨sa, sc, rfl, _⟩ := hs4.open
   have le24 := le3.trans le4
   refine xkp (Drop.forget le24) ?_
   simp -dsimp -implicitDefEqProofs (disch := first|with_reducible assumption|omega) [go_sem]
   refine ⟨5, h4, t0, t1, t2, t3, .slice sa ds4.length sc, ⟨by omega, j2.trans le24, a4, a6, y0.up le24, y1.up le24, y2.up le24, y3.up le24, n5⟩, by omega, by simp [Ent, List.lookup], ?_⟩
   exact Drop.refl _ _
  ·simp -dsimp -implicitDefEqProofs (disch := first|with_reducible assumption|omega) [go_sem]
   refine ⟨k + 1, h2, t0, t1, t2, t3, t4, ⟨by omega, j2, j3, Nt.more y0 (by show 22 + k ≤ _; omega), Nt.more y1 (by show 22 + k ≤ _; omega), Nt.more y2 (by show 22 + k ≤ _; omega), Nt.more y3 (by show 22 + k ≤ _; omega), Nt.more y4 (by show 22 + k ≤ _; omega)⟩, by omega, by simp [Ent, List.lookup], ?_⟩
   exact Drop.tail _ _ _
 ·obtain rfl : k = l.length := by omega
  rw [colC_all] at z0 z1 z2 z3 z4
  simp -dsimp -implicitDefEqProofs (disch := first|with_reducible assumption|omega) [go_sem]
  refine xMS_full (e := 22) (z := .int .u64 0) (by kernel_rfl) tI_22 rfl rfl .i64 .i64 5 (by decide) (by decide) (by decide) ?_
  simp only [show List.replicate (5 : Int).toNat (Value.int .u64 0) = [.int .u64 0, .int .u64 0, .int .u64 0, .int .u64 0, .int .u64 0] from rfl, show (5 : Int).toNat = 5 from rfl]
  refine xnew fun b8 n_b8 h_b8 => ?_
  try simp only [Apart] at n_b8
  have n8 := n_b8.1
  clear n_b8
  simp -dsimp -implicitDefEqProofs (disch := first|with_reducible assumption|omega) [go_sem]
  refine xloop (γ := Nat × PH) (0, h1) (fun q => q.1 ≤ 5 ∧ PH.le h1 q.2 ∧ q.2 b8 = noC ∧ q.2 b4 = noC ∧ tfit l q.1) (fun q => [(9, .int .i64 q.1), (8, .slice (some ⟨b8, 0, none⟩) 5 5), (4, .slice (some ⟨b4, 0, none⟩) 5 5)])
   (fun q => ⟨b8, 22, tcells l q.1, 5⟩ :: ⟨b4, 136, [s0, s1, s2, s3, s4], 5⟩ :: L) (fun q => q.2) (fun q => 5 - q.1) ?_ ?_ ?_ ?_
  ·exact ⟨by omega, PH.le_refl h1, h_b8, i3, by simp [tfit]⟩
  ·simp [Ent, List.lookup, xEnv]
  ·exact Drop.refl _ _
  rintro ⟨j, h2⟩ ⟨j1, j2, j3, j4, j5⟩
  simp only at j1 j2 j3 j4 j5 ⊢
  have js : j = 0 ∨ j = 1 ∨ j = 2 ∨ j = 3 ∨ j = 4 ∨ j = 5 := by omega
  rcases js with rfl | rfl | rfl | rfl | rfl | rfl
  ·simp only [tcells, tcell, tfit, Nat.lt_irrefl, Nat.not_lt_zero, if_false, if_true, Nat.reduceLT, show ((0 : Nat) : Int) = 0 from rfl, false_implies, true_implies, true_and, and_true] at j5 ⊢
   simp -dsimp -implicitDefEqProofs (disch := first|with_reducible assumption|omega) [go_sem]
   refine Spec.ap (uint_any _ (z0.up j2) fun h3 le3 ap => ?_)
   simp only [Ap] at ap
   obtain ⟨a8, a4, _⟩ := ap
   have le13 := j2.trans le3
   by_cases c : tot (l.map SlD.prize) ≤ 18446744073709551615
   ·rw [show u64E (tot (l.map SlD.prize)) = true from decide_eq_true c, show u64N (tot (l.map SlD.prize)) = tot (l.map SlD.prize) from if_pos c]
    simp -dsimp -implicitDefEqProofs (disch := first|with_reducible assumption|omega) [go_sem]
    refine ⟨1, h3, ⟨by omega, le13, a8, a4, ?_⟩, by omega, by simp [Ent, List.lookup], ?_⟩
    ·simp [c, j5]
    ·simp [tcell, tcells]
     exact Drop.refl _ _
   ·rw [show u64E (tot (l.map SlD.prize)) = false from decide_eq_false c]
    simp -dsimp -implicitDefEqProofs (disch := first|with_reducible assumption|omega) [go_sem]
    refine xMS_full (e := 22) (z := .int .u64 0) (by kernel_rfl) tI_22 rfl rfl .i64 .i64 5 (by decide) (by decide) (by decide) ?_
    simp only [show List.replicate (5 : Int).toNat (Value.int .u64 0) = [.int .u64 0, .int .u64 0, .int .u64 0, .int .u64 0, .int .u64 0] from rfl, show (5 : Int).toNat = 5 from rfl]
    refine xnew fun b9 n_b9 h_b9 => ?_
    try simp only [Apart] at n_b9
    simp -dsimp -implicitDefEqProofs (disch := first|with_reducible assumption|omega) [go_sem]
    exact fin5 h_b9 zero5 fun h4 r le4 it => fin_tail (fin_tail (fin_here (hno (fun t => c (by simp only [totOk] at t; omega)) h4 r (i2.trans (le13.trans le4)) it)))
  ·simp only [tcells, tcell, tfit, Nat.lt_irrefl, Nat.not_lt_zero, if_false, if_true, Nat.reduceLT, show ((1 : Nat) : Int) = 1 from rfl, false_implies, true_implies, true_and, and_true] at j5 ⊢
   simp -dsimp -implicitDefEqProofs (disch := first|with_reducible assumption|omega) [go_sem]
   refine Spec.ap (uint_any _ (z1.up j2) fun h3 le3 ap => ?_)
   simp only [Ap] at ap
   obtain ⟨a8, a4, _⟩ := ap
   have le13 := j2.trans le3
   by_cases c : tot (l.map SlD.over) ≤ 18446744073709551615
   ·rw [show u64E (tot (l.map SlD.over)) = true from decide_eq_true c, show u64N (tot (l.map SlD.over)) = tot (l.map SlD.over) from if_pos c]
    simp -dsimp -implicitDefEqProofs (disch := first|with_reducible assumption|omega) [go_sem]
    refine ⟨2, h3, ⟨by omega, le13, a8, a4, ?_⟩, by omega, by simp [Ent, List.lookup], ?_⟩
    ·simp [c, j5]
    ·simp [tcell, tcells]
     exact Drop.refl _ _
   ·rw [show u64E (tot (l.map SlD.over)) = false from decide_eq_false c]
    simp -dsimp -implicitDefEqProofs (disch := first|with_reducible assumption|omega) [go_sem]
    refine xMS_full (e := 22) (z := .int .u64 0) (by kernel_rfl) tI_22 rfl rfl .i64 .i64 5 (by decide) (by decide) (by decide) ?_
    simp only [show List.replicate (5 : Int).toNat (Value.int .u64 0) = [.int .u64 0, .int .u64 0, .int .u64 0, .int .u64 0, .int .u64 0] from rfl, show (5 : Int).toNat = 5 from rfl]
    refine xnew fun b9 n_b9 h_b9 => ?_
    try simp only [Apart] at n_b9
    simp -dsimp -implicitDefEqProofs (disch := first|with_reducible assumption|omega) [go_sem]
    exact fin5 h_b9 zero5 fun h4 r le4 it => fin_tail (fin_tail (fin_here (hno (fun t => c (by simp only [totOk] at t; omega)) h4 r (i2.trans (le13.trans le4)) it)))
  ·simp only [tcells, tcell, tfit, Nat.lt_irrefl, Nat.not_lt_zero, if_false, if_true, Nat.reduceLT, show ((2 : Nat) : Int) = 2 from rfl, false_implies, true_implies, true_and, and_true] at j5 ⊢
   simp -dsimp -implicitDefEqProofs (disch := first|with_reducible assumption|omega) [go_sem]
   refine Spec.ap (uint_any _ (z2.up j2) fun h3 le3 ap => ?_)
   simp only [Ap] at ap
   obtain ⟨a8, a4, _⟩ := ap
   have le13 := j2.trans le3
   by_cases c : tot (l.map SlD.fine) ≤ 18446744073709551615
   ·rw [show u64E (tot (l.map SlD.fine)) = true from decide_eq_true c, show u64N (tot (l.map SlD.fine)) = tot (l.map SlD.fine) from if_pos c]
    simp -dsimp -implicitDefEqProofs (disch := first|with_reducible assumption|omega) [go_sem]
    refine ⟨3, h3, ⟨by omega, le13, a8, a4, ?_⟩, by omega, by simp [Ent, List.lookup], ?_⟩
    ·simp [c, j5]
    ·simp [tcell, tcells]
     exact Drop.refl _ _
   ·rw [show u64E (tot (l.map SlD.fine)) = false from decide_eq_false c]
    simp -dsimp -implicitDefEqProofs (disch := first|with_reducible assumption|omega) [go_sem]
    refine xMS_full (e := 22) (z := .int .u64 0) (by kernel_rfl) tI_22 rfl rfl .i64 .i64 5 (by decide) (by decide) (by decide) ?_
    simp only [show List.replicate (5 : Int).toNat (Value.int .u64 0) = [.int .u64 0, .int .u64 0, .int .u64 0, .int .u64 0, .int .u64 0] from rfl, show (5 : Int).toNat = 5 from rfl]
    refine xnew fun b9 n_b9 h_b9 => ?_
    try simp only [Apart] at n_b9
    simp -dsimp -implicitDefEqProofs (disch := first|with_reducible assumption|omega) [go_sem]
    exact fin5 h_b9 zero5 fun h4 r le4 it => fin_tail (fin_tail (fin_here (hno (fun t => c (by simp only [totOk] at t; omega)) h4 r (i2.trans (le13.trans le4)) it)))
  ·simp only [tcells, tcell, tfit, Nat.lt_irrefl, Nat.not_lt_zero, if_false, if_true, Nat.reduceLT, show ((3 : Nat) : Int) = 3 from rfl, false_implies, true_implies, true_and, and_true] at j5 ⊢
   simp -dsimp -implicitDefEqProofs (disch := first|with_reducible assumption|omega) [go_sem]
   refine Spec.ap (uint_any _ (z3.up j2) fun h3 le3 ap => ?_)
   simp only [Ap] at ap
   obtain ⟨a8, a4, _⟩ := ap
   have le13 := j2.trans le3
   by_cases c : tot (l.map SlD.burned) ≤ 18446744073709551615
   ·rw [show u64E (tot (l.map SlD.burned)) = true from decide_eq_true c, show u64N (tot (l.map SlD.burned)) = tot (l.map SlD.burned) from if_pos c]
    simp -dsimp -implicitDefEqProofs (disch := first|with_reducible assumption|omega) [go_sem]
    refine ⟨4, h3, ⟨by omega, le13, a8, a4, ?_⟩, by omega, by simp [Ent, List.lookup], ?_⟩
    ·simp [c, j5]
    ·simp [tcell, tcells]
     exact Drop.refl _ _
   ·rw [show u64E (tot (l.map SlD.burned)) = false from decide_eq_false c]
    simp -dsimp -implicitDefEqProofs (disch := first|with_reducible assumption|omega) [go_sem]
    refine xMS_full (e := 22) (z := .int .u64 0) (by kernel_rfl) tI_22 rfl rfl .i64 .i64 5 (by decide) (by decide) (by decide) ?_
    simp only [show List.replicate (5 : Int).toNat (Value.int .u64 0) = [.int .u64 0, .int .u64 0, .int .u64 0, .int .u64 0, .int .u64 0] from rfl, show (5 : Int).toNat = 5 from rfl]
    refine xnew fun b9 n_b9 h_b9 => ?_
    try simp only [Apart] at n_b9
    simp -dsimp -implicitDefEqProofs (disch := first|with_reducible assumption|omega) [go_sem]
    exact fin5 h_b9 zero5 fun h4 r le4 it => fin_tail (fin_tail (fin_here (hno (fun t => c (by simp only [totOk] at t; omega)) h4 r (i2.trans (le13.trans le4)) it)))
  ·simp only [tcells, tcell, tfit, Nat.lt_irrefl, Nat.not_lt_zero, if_false, if_true, Nat.reduceLT, show ((4 : Nat) : Int) = 4 from rfl, false_implies, true_implies, true_and, and_true] at j5 ⊢
   simp -dsimp -implicitDefEqProofs (disch := first|with_reducible assumption|omega) [go_sem]
   refine Spec.ap (uint_any _ (z4.up j2) fun h3 le3 ap => ?_)
   simp only [Ap] at ap
   obtain ⟨a8, a4, _⟩ := ap
   have le13 := j2.trans le3
   by_cases c : tot (l.map SlD.paid) ≤ 18446744073709551615
   ·rw [show u64E (tot (l.map SlD.paid)) = true from decide_eq_true c, show u64N (tot (l.map SlD.paid)) = tot (l.map SlD.paid) from if_pos c]
    simp -dsimp -implicitDefEqProofs (disch := first|with_reducible assumption|omega) [go_sem]
    refine ⟨5, h3, ⟨by omega, le13, a8, a4, ?_⟩, by omega, by simp [Ent, List.lookup], ?_⟩
    ·simp [c, j5]
    ·simp [tcell, tcells]
     exact Drop.refl _ _
   ·rw [show u64E (tot (l.map SlD.paid)) = false from decide_eq_false c]
    simp -dsimp -implicitDefEqProofs (disch := first|with_reducible assumption|omega) [go_sem]
    refine xMS_full (e := 22) (z := .int .u64 0) (by kernel_rfl) tI_22 rfl rfl .i64 .i64 5 (by decide) (by decide) (by decide) ?_
    simp only [show List.replicate (5 : Int).toNat (Value.int .u64 0) = [.int .u64 0, .int .u64 0, .int .u64 0, .int .u64 0, .int .u64 0] from rfl, show (5 : Int).toNat = 5 from rfl]
    refine xnew fun b9 n_b9 h_b9 => ?_
    try simp only [Apart] at n_b9
    simp -dsimp -implicitDefEqProofs (disch := first|with_reducible assumption|omega) [go_sem]
    exact fin5 h_b9 zero5 fun h4 r le4 it => fin_tail (fin_tail (fin_here (hno (fun t => c (by simp only [totOk] at t; omega)) h4 r (i2.trans (le13.trans le4)) it)))
  ·simp only [tcells, tcell, tfit, if_true, Nat.reduceLT, show ((5 : Nat) : Int) = 5 from rfl, true_implies] at j5 ⊢
   simp -dsimp -implicitDefEqProofs (disch := first|with_reducible assumption|omega) [go_sem]
   refine fin5 j3 (fun z hz => ?_) fun h4 r le4 it => fin_tail (fin_here (hk j5 h4 r (i2.trans (j2.trans le4)) it))
   obtain ⟨q0, q1, q2, q3, q4⟩ := j5
   simp only [List.mem_cons, List.not_mem_nil, or_false] at hz
   rcases hz with rfl | rfl | rfl | rfl | rfl
   ·exact ⟨colS_ok fun x hx => (hp x hx).prize.1, q0⟩
   ·exact ⟨colS_ok fun x hx => (hp x hx).over.1, q1⟩
   ·exact ⟨colS_ok fun x hx => (hp x hx).fine.1, q2⟩
   ·exact ⟨colS_ok fun x hx => (hp x hx).burned.1, q3⟩
   ·exact ⟨colS_ok fun x hx => (hp x hx).paid.1, q4⟩
theorem slA_len (l : List SlD) (k : Nat) (hk : k ≤ l.length) : ((l.take k).flatMap slC).length = k * 8 := by
 rw [flatG_len slC_len, List.length_take, Nat.min_eq_left hk]
theorem slA_succ {l : List SlD} {k : Nat} (hk : k < l.length) : (l.take (k + 1)).flatMap slC = (l.take k).flatMap slC ++ slC (gr zeroSl l k) := by
 rw [List.take_add_one, List.getElem?_eq_getElem hk, gr_lt hk, List.flatMap_append]
 simp
theorem sliptotals_any (v : Value) (hd : ∃ l, Recs slC 8 h v l ∧ ∀ a ∈ l, SlOk a) (hk : ∀ h', PH.le h h' → K (.bool true) L h') : Spec Tryz.prog 4 [v] L h K := by
 obtain ⟨l, hd0, hp⟩ := hd
 have hd0' := hd0
 obtain ⟨va, vc, rfl, hc, hln, _, hd⟩ := hd0.open
 refine x_enter Tryz.func4 rfl (rs := [_]) rfl rfl mixed (by kernel_rfl) rfl rfl ?_
 simp -dsimp -implicitDefEqProofs (disch := first|with_reducible assumption|omega) [go_sem]
 refine awake41_any fun h1 le1 => ?_
 simp -dsimp -implicitDefEqProofs (disch := first|with_reducible assumption|omega) [go_sem]
 refine xif_dec (fun c0 => ?_) (fun c0 => ?_)
 ·simp -dsimp -implicitDefEqProofs (disch := first|with_reducible assumption|omega) [go_sem]
  exact fin_here (hk h1 le1)
 have hl : l.length ≤ 1000 := by omega
 simp -dsimp -implicitDefEqProofs (disch := first|with_reducible assumption|omega) [go_sem]
 have hd1 := hd.up le1
 refine xloop (γ := Nat × Option (Nat × Nat)) (0, none) (fun q => q.1 ≤ l.length ∧ okO q.2 q.1 ∧ apO q.2 L h1) (fun q => [(21, .int .i64 q.1), (20, .int .i64 l.length), (19, .slice va l.length vc), (3, ovs q.2 q.1), (0, .slice va l.length vc)]) (fun q => oent 56 8 q.2 ((l.take q.1).flatMap slC) L) (fun _ => h1) (fun q => l.length - q.1) ?_ ?_ ?_ ?_
 ·exact ⟨Nat.zero_le _, rfl, trivial⟩
 ·simp [Ent, List.lookup, xEnv, ovs]
 ·exact Drop.refl _ _
 rintro ⟨j, o⟩ ⟨j1, j2, j3⟩
 simp only at j1 j2 j3 ⊢
 by_cases c1 : j < l.length
 ·have hs := slA_succ c1
  simp -dsimp -implicitDefEqProofs (disch := first|with_reducible assumption|omega) [go_sem, ↓idxR zeroSl (by decide) hd1, slC]
  refine xnew fun b5 n_b5 h_b5 => ?_
  try simp only [Apart] at n_b5
  have n5 := apart_oent n_b5
  simp -dsimp -implicitDefEqProofs (disch := first|with_reducible assumption|omega) [go_sem, slC]
  refine xnew fun b6 n_b6 h_b6 => ?_
  try simp only [Apart] at n_b6
  simp -dsimp -implicitDefEqProofs (disch := first|with_reducible assumption|omega) [go_sem]
  refine xappend (t := 45) (e := 56) (sz := 8) (bytes := 64) (by kernel_rfl) tI_56 rfl rfl rfl rfl (by decide) [_, _] L o j _ j2 (slA_len l j j1) (Src.own List.mem_cons_self) (m := 1) (news := slC (gr zeroSl l j)) rfl (by intro u hu; simp only [slC, List.mem_cons, List.not_mem_nil, or_false] at hu; rcases hu with rfl | rfl | rfl | rfl | rfl | rfl | rfl | rfl <;> rfl) (by simp [maxLen]; omega) (by omega) ?_
  intro o' i1 i2 i3
  simp -dsimp -implicitDefEqProofs (disch := first|with_reducible assumption|omega) [go_sem]
  refine ⟨j + 1, o', ⟨by omega, i1, apO_tail (apO_tail i2)⟩, by omega, by simp [Ent, List.lookup], ?_⟩
  rw [hs]
  exact (Drop.tail _ _ _).trans (Drop.tail _ _ _)
 ·obtain rfl : j = l.length := by omega
  have hxl := slA_len l l.length (Nat.le_refl _)
  rw [List.take_length] at hxl
  simp -dsimp -implicitDefEqProofs (disch := first|with_reducible assumption|omega) [go_sem]
  refine call_pub_o (e := 56) (n := l.length) [] j2 hxl (by omega) (fun h2 le2 sl2 => ?_) ⟨Tryz.f14, Tryz.func14, by decide +kernel, rfl⟩
  simp only [List.nil_append]
  have hpl : Recs slC 8 h2 (ovs o l.length) l := Recs.pub slC_len sl2
  refine stotals_any _ (hd1.up le2) hl hp (fun t h3 le3 => ?_) (fun t h3 le3 => ?_)
  ·simp -dsimp -implicitDefEqProofs (disch := first|with_reducible assumption|omega) [go_sem]
   refine totals41_any _ (hpl.up le3) hl hp (fun t2 h4 r le4 i4 => ?_) (fun t2 => absurd t t2)
   simp -dsimp -implicitDefEqProofs (disch := first|with_reducible assumption|omega) [go_sem]
   refine xnew fun b9 n_b9 h_b9 => ?_
   try simp only [Apart] at n_b9
   simp -dsimp -implicitDefEqProofs (disch := first|with_reducible assumption|omega) [go_sem]
   refine call_pub_o (e := 22) (sz := 1) (o := some (b9, 5)) (n := 5) [] (show 5 ≤ 5 ∧ 5 ≤ maxLen by decide) rfl (by decide) (fun h5 le5 sl5 => ?_) ⟨Tryz.f16, Tryz.func16, by decide +kernel, rfl⟩
   refine same64 (xs := [tot (l.map SlD.prize), tot (l.map SlD.over), tot (l.map SlD.fine), tot (l.map SlD.burned), tot (l.map SlD.paid)]) _ _ ⟨sl5, i4.2⟩ (i4.up le5) ?_
   rw [decide_eq_true rfl]
   simp -dsimp -implicitDefEqProofs (disch := first|with_reducible assumption|omega) [go_sem]
   exact fin_here (hk h5 (le1.trans (le2.trans (le3.trans (le4.trans le5)))))
  ·simp -dsimp -implicitDefEqProofs (disch := first|with_reducible assumption|omega) [go_sem]
   refine totals41_any _ (hpl.up le3) hl hp (fun t2 => absurd t2 t) (fun t2 h4 r le4 i4 => ?_)
   simp -dsimp -implicitDefEqProofs (disch := first|with_reducible assumption|omega) [go_sem]
   refine xnew fun b9 n_b9 h_b9 => ?_
   try simp only [Apart] at n_b9
   simp -dsimp -implicitDefEqProofs (disch := first|with_reducible assumption|omega) [go_sem]
   refine call_pub_o (e := 22) (sz := 1) (o := some (b9, 5)) (n := 5) [] (show 5 ≤ 5 ∧ 5 ≤ maxLen by decide) rfl (by decide) (fun h5 le5 sl5 => ?_) ⟨Tryz.f16, Tryz.func16, by decide +kernel, rfl⟩
   refine same64 (xs := [0, 0, 0, 0, 0]) _ _ ⟨sl5, i4.2⟩ (i4.up le5) ?_
   rw [decide_eq_true rfl]
   simp -dsimp -implicitDefEqProofs (disch := first|with_reducible assumption|omega) [go_sem]
   exact fin_here (hk h5 (le1.trans (le2.trans (le3.trans (le4.trans le5)))))
end Go.X

/- The engine's laws on the order of own blocks, and on what is known beyond need. Conditions: none. -/
import Derived.Test.YtbobjcapmfpmkaaXA
set_option linter.unusedVariables false
set_option linter.unusedSimpArgs false
namespace Go.X
open Go.RowKit Go.Bl
variable {P : Program}
theorem Drop.perm {L L' : Own} (h : PH) (hp : L.Perm L') : Drop L h L' h := fun W hg =>
  ⟨⟨hg.sub, fun e he => hg.own e (hp.mem_iff.2 he), (hp.map Blk.b).nodup_iff.1 hg.nodup, fun e he => hg.apart e (hp.mem_iff.2 he)⟩, fun e he => List.mem_map_of_mem (hp.mem_iff.2 he)⟩
/-- a call: an own block is put ahead of the others -/
theorem call_pull {f : FuncId} {args : List Value} {x : Blk} (L1 : Own) {L2 : Own} {h : PH} {K : PK} (hs : Spec P f args (x :: (L1 ++ L2)) h K) : Spec P f args (L1 ++ x :: L2) h K :=
  hs.weaken (Drop.perm h List.perm_middle)
theorem call_swap {f : FuncId} {args : List Value} {x y : Blk} {L : Own} {h : PH} {K : PK} (hs : Spec P f args (y :: x :: L) h K) : Spec P f args (x :: y :: L) h K :=
  hs.weaken (Drop.perm h (List.Perm.swap _ _ _))
theorem Drop.forget {L : Own} {h h' : PH} (le : PH.le h h') : Drop L h' L h := fun W hg => by
  refine ⟨⟨fun b o v hv => hg.sub b o v (le b o v hv), hg.own, hg.nodup, fun e he => ?_⟩, fun e he => List.mem_map_of_mem he⟩
  funext o
  cases hh : h e.b o with
  | none => rfl
  | some v =>
    have := le _ _ _ hh
    rw [hg.apart e he] at this
    cases this
/-- a contract's fresh memory may be forgotten -/
theorem Spec.forget {f : FuncId} {args : List Value} {L : Own} {h : PH} {v : Value} (hs : Spec P f args L h fun v' L' h' => v' = v ∧ L' = L ∧ PH.le h h') : Spec P f args L h fun v' L' h' => v' = v ∧ L' = L ∧ h' = h :=
  ⟨hs.1, fun W hg => (hs.2 W hg).mono fun e W' ⟨r, L', h', he, ⟨hv, hL, hle⟩, st⟩ => by
    subst hL
    obtain ⟨g, f⟩ := Drop.forget (L := L') hle W' st.1
    exact ⟨r, L', h, he, ⟨hv, rfl, rfl⟩, ⟨g, st.2.1, st.2.2⟩⟩⟩
theorem call_p1 {f : FuncId} {args : List Value} {x a : Blk} {L : Own} {h : PH} {K : PK} (hs : Spec P f args (x :: a :: L) h K) : Spec P f args (a :: x :: L) h K := call_pull [_] hs
theorem call_p2 {f : FuncId} {args : List Value} {x a b : Blk} {L : Own} {h : PH} {K : PK} (hs : Spec P f args (x :: a :: b :: L) h K) : Spec P f args (a :: b :: x :: L) h K := call_pull [_, _] hs
theorem call_p3 {f : FuncId} {args : List Value} {x a b c : Blk} {L : Own} {h : PH} {K : PK} (hs : Spec P f args (x :: a :: b :: c :: L) h K) : Spec P f args (a :: b :: c :: x :: L) h K := call_pull [_, _, _] hs
theorem call_p4 {f : FuncId} {args : List Value} {x a b c d : Blk} {L : Own} {h : PH} {K : PK} (hs : Spec P f args (x :: a :: b :: c :: d :: L) h K) : Spec P f args (a :: b :: c :: d :: x :: L) h K := call_pull [_, _, _, _] hs
theorem call_p5 {f : FuncId} {args : List Value} {x a b c d e : Blk} {L : Own} {h : PH} {K : PK} (hs : Spec P f args (x :: a :: b :: c :: d :: e :: L) h K) : Spec P f args (a :: b :: c :: d :: e :: x :: L) h K := call_pull [_, _, _, _, _] hs
/-! ### pointers beside nil -/
theorem run_eq_pnil {T e : Nat} (hT : P.underlying T = some (.pointer e)) (a : Option Addr) (W : World) : (Op.equal T (.pointer a) (.pointer none)).run P W = .ok a.isNone W := by
  unfold Op.equal
  rw [show Op.maxDepth = (Op.maxDepth - 1) + 1 by rfl, Op.equalIn]
  cases a <;> simp [underlying, hT]
theorem xBin_eqpnil {T e : Nat} (hT : P.underlying T = some (.pointer e)) (x y : Operand) (a : Option Addr) (K : Value → Prop) : xBin P .eql T x y (.pointer a) (.pointer none) K = K (.bool a.isNone) :=
  xRun_of (fun W => by simp [eqGuard, binOp, run_eq_pnil hT]) K
theorem xBin_nepnil {T e : Nat} (hT : P.underlying T = some (.pointer e)) (x y : Operand) (a : Option Addr) (K : Value → Prop) : xBin P .neq T x y (.pointer a) (.pointer none) K = K (.bool (!a.isNone)) :=
  xRun_of (fun W => by simp [eqGuard, binOp, run_eq_pnil hT]) K
/-! ### x[i:j] -/
/-- where a part of a slice begins -/
def cutA (a : Option Addr) (c i sz : Nat) : Option Addr := if c = i then a else a.map (·.add (i * sz))
theorem xSl_mid {T e sz by' : Nat} (hT : tSh P T = .sl e sz by') (a : Option Addr) (n c : Nat) (k l : IntKind) (i j : Int) (h0 : 0 ≤ i) (h1 : i ≤ j) (h2 : j ≤ (c : Int)) (K : Value → Prop) : xSl P T (.slice a n c) (some (.int k i)) (some (.int l j)) none K = K (.slice (cutA a c i.toNat sz) (j.toNat - i.toNat) (c - i.toNat)) := by
  unfold tSh at hT
  split at hT
  · rename_i e' hu
    split at hT
    · rename_i ii hi
      refine xRun_of (fun W => ?_) K
      injection hT with hT1 hT2 hT3
      subst hT2
      have h3 : i ≤ (j.toNat : Int) := by omega
      have h4 : 0 ≤ j := by omega
      simp [Instr.sliceAt, Instr.slice, Instr.sliceBounds, Instr.sliceBound, asIntOf, underlying, hu, run_sizeOf hi, h0, h1, h2, h3, h4, cutA]
      intro hh; omega
    · cases hT
  · split at hT <;> cases hT
  · cases hT
theorem Ints.part {h : PH} {k : IntKind} {a : Option Addr} {n c : Nat} {zs : List Int} (hs : Ints h k (.slice a n c) zs) (i j : Nat) (hij : i ≤ j) (hj : j ≤ zs.length) : Ints h k (.slice (cutA a c i 1) (j - i) (c - i)) ((zs.drop i).take (j - i)) := by
  obtain ⟨⟨h1, a', c', h2, h3, h4, h5, h6, h7⟩, hr⟩ := hs
  injection h2 with e1 e2 e3
  subst e1; subst e3
  have hl : ((zs.drop i).take (j - i)).length = j - i := by simp; omega
  refine ⟨⟨by simp, cutA a c i 1, c - i, by rw [hl], by omega, by omega, by omega, fun hn => ?_, fun m v hm => ?_⟩, fun z hz => hr z (List.mem_of_mem_drop (List.mem_of_mem_take hz))⟩
  · unfold cutA at hn
    split at hn
    · omega
    · cases a with
      | none => have := h6 rfl; omega
      | some q => simp at hn
  · rw [List.map_take, List.map_drop, List.getElem?_take] at hm
    split at hm
    · rename_i hmj
      rw [List.getElem?_drop] at hm
      have hne : ¬ c = i := by omega
      have := h7 (i + m) v hm
      unfold cutA
      rw [if_neg hne]
      cases a with
      | none => simp [elemCell] at this
      | some q =>
        simp only [elemCell, Option.map_some, Nat.mul_one, add_add'] at this ⊢
        exact this
    · cases hm
@[go_sem ↓] theorem xBuiltin_min {ty : Nat} (ats : Array Nat) (k l : IntKind) (a b : Int) (L : Own) (h : PH) (K : PK) : xBuiltin P .min ats ty [.int k a, .int l b] L h K = K (.int k (min a b)) L h := by
  have : xMM P false ats ty [.int k a, .int l b] (fun r => xPut r (fun r => K r L h) ⟨⟩) = K (.int k (min a b)) L h := by
    refine xRun_of (fun W => ?_) _
    simp [Builtin.min_, Builtin.min2, Int.min_def]
    omega
  exact this
@[go_sem ↓] theorem xNC_some (p : Addr) (K : Value → Prop) (t : Tok K) : xNC (.pointer (some p)) K t = K (.pointer (some p)) := by simp [xNC]
end Go.X

/- The engine's laws on the order of own blocks, and on what is known beyond need. Conditions: none. -/
import Derived.Test.YtbobjcapmfpmkaaXA
set_option linter.unusedVariables false
set_option linter.unusedSimpArgs false
namespace Go.X
open Go.RowKit Go.Bl
variable {P : Program}
theorem Drop.perm {L L' : Own} (h : PH) (hp : L.Perm L') : Drop L h L' h := fun W hg =>
  ⟨⟨hg.sub, fun e he => hg.own e (hp.mem_iff.2 he), (hp.map Blk.b).nodup_iff.1 hg.nodup, fun e he => hg.apart e (hp.mem_iff.2 he)⟩, fun e he => List.mem_map_of_mem (hp.mem_iff.2 he)⟩
/-- a call: an own block is put ahead of the others -/
theorem call_pull {f : FuncId} {args : List Value} {x : Blk} (L1 : Own) {L2 : Own} {h : PH} {K : PK} (hs : Spec P f args (x :: (L1 ++ L2)) h K) : Spec P f args (L1 ++ x :: L2) h K :=
  hs.weaken (Drop.perm h List.perm_middle)
theorem call_swap {f : FuncId} {args : List Value} {x y : Blk} {L : Own} {h : PH} {K : PK} (hs : Spec P f args (y :: x :: L) h K) : Spec P f args (x :: y :: L) h K :=
  hs.weaken (Drop.perm h (List.Perm.swap _ _ _))
theorem Drop.forget {L : Own} {h h' : PH} (le : PH.le h h') : Drop L h' L h := fun W hg => by
  refine ⟨⟨fun b o v hv => hg.sub b o v (le b o v hv), hg.own, hg.nodup, fun e he => ?_⟩, fun e he => List.mem_map_of_mem he⟩
  funext o
  cases hh : h e.b o with
  | none => rfl
  | some v =>
    have := le _ _ _ hh
    rw [hg.apart e he] at this
    cases this
/-- a contract's fresh memory may be forgotten -/
theorem Spec.forget {f : FuncId} {args : List Value} {L : Own} {h : PH} {v : Value} (hs : Spec P f args L h fun v' L' h' => v' = v ∧ L' = L ∧ PH.le h h') : Spec P f args L h fun v' L' h' => v' = v ∧ L' = L ∧ h' = h :=
  ⟨hs.1, fun W hg => (hs.2 W hg).mono fun e W' ⟨r, L', h', he, ⟨hv, hL, hle⟩, st⟩ => by
    subst hL
    obtain ⟨g, f⟩ := Drop.forget (L := L') hle W' st.1
    exact ⟨r, L', h, he, ⟨hv, rfl, rfl⟩, ⟨g, st.2.1, st.2.2⟩⟩⟩
theorem call_p1 {f : FuncId} {args : List Value} {x a : Blk} {L : Own} {h : PH} {K : PK} (hs : Spec P f args (x :: a :: L) h K) : Spec P f args (a :: x :: L) h K := call_pull [_] hs
theorem call_p2 {f : FuncId} {args : List Value} {x a b : Blk} {L : Own} {h : PH} {K : PK} (hs : Spec P f args (x :: a :: b :: L) h K) : Spec P f args (a :: b :: x :: L) h K := call_pull [_, _] hs
theorem call_p3 {f : FuncId} {args : List Value} {x a b c : Blk} {L : Own} {h : PH} {K : PK} (hs : Spec P f args (x :: a :: b :: c :: L) h K) : Spec P f args (a :: b :: c :: x :: L) h K := call_pull [_, _, _] hs
theorem call_p4 {f : FuncId} {args : List Value} {x a b c d : Blk} {L : Own} {h : PH} {K : PK} (hs : Spec P f args (x :: a :: b :: c :: d :: L) h K) : Spec P f args (a :: b :: c :: d :: x :: L) h K := call_pull [_, _, _, _] hs
theorem call_p5 {f : FuncId} {args : List Value} {x a b c d e : Blk} {L : Own} {h : PH} {K : PK} (hs : Spec P f args (x :: a :: b :: c :: d :: e :: L) h K) : Spec P f args (a :: b :: c :: d :: e :: x :: L) h K := call_pull [_, _, _, _, _] hs
theorem call_s1 {f : FuncId} {args : List Value} {x a b : Blk} {L : Own} {h : PH} {K : PK} (hs : Spec P f args (x :: b :: a :: L) h K) : Spec P f args (x :: a :: b :: L) h K := hs.weaken (Drop.perm h (List.Perm.cons _ (List.Perm.swap _ _ _)))
/-! ### pointers beside nil -/
theorem run_eq_pnil {T e : Nat} (hT : P.underlying T = some (.pointer e)) (a : Option Addr) (W : World) : (Op.equal T (.pointer a) (.pointer none)).run P W = .ok a.isNone W := by
  unfold Op.equal
  rw [show Op.maxDepth = (Op.maxDepth - 1) + 1 by rfl, Op.equalIn]
  cases a <;> simp [underlying, hT]
theorem xBin_eqpnil {T e : Nat} (hT : P.underlying T = some (.pointer e)) (x y : Operand) (a : Option Addr) (K : Value → Prop) : xBin P .eql T x y (.pointer a) (.pointer none) K = K (.bool a.isNone) :=
  xRun_of (fun W => by simp [eqGuard, binOp, run_eq_pnil hT]) K
theorem xBin_nepnil {T e : Nat} (hT : P.underlying T = some (.pointer e)) (x y : Operand) (a : Option Addr) (K : Value → Prop) : xBin P .neq T x y (.pointer a) (.pointer none) K = K (.bool (!a.isNone)) :=
  xRun_of (fun W => by simp [eqGuard, binOp, run_eq_pnil hT]) K
/-! ### x[i:j] -/
/-- where a part of a slice begins -/
def cutA (a : Option Addr) (c i sz : Nat) : Option Addr := if c = i then a else a.map (·.add (i * sz))
theorem xSl_mid {T e sz by' : Nat} (hT : tSh P T = .sl e sz by') (a : Option Addr) (n c : Nat) (k l : IntKind) (i j : Int) (h0 : 0 ≤ i) (h1 : i ≤ j) (h2 : j ≤ (c : Int)) (K : Value → Prop) : xSl P T (.slice a n c) (some (.int k i)) (some (.int l j)) none K = K (.slice (cutA a c i.toNat sz) (j.toNat - i.toNat) (c - i.toNat)) := by
  unfold tSh at hT
  split at hT
  · rename_i e' hu
    split at hT
    · rename_i ii hi
      refine xRun_of (fun W => ?_) K
      injection hT with hT1 hT2 hT3
      subst hT2
      have h3 : i ≤ (j.toNat : Int) := by omega
      have h4 : 0 ≤ j := by omega
      simp [Instr.sliceAt, Instr.slice, Instr.sliceBounds, Instr.sliceBound, asIntOf, underlying, hu, run_sizeOf hi, h0, h1, h2, h3, h4, cutA]
      intro hh; omega
    · cases hT
  · split at hT <;> cases hT
  · cases hT
theorem Ints.part {h : PH} {k : IntKind} {a : Option Addr} {n c : Nat} {zs : List Int} (hs : Ints h k (.slice a n c) zs) (i j : Nat) (hij : i ≤ j) (hj : j ≤ zs.length) : Ints h k (.slice (cutA a c i 1) (j - i) (c - i)) ((zs.drop i).take (j - i)) := by
  obtain ⟨⟨h1, a', c', h2, h3, h4, h5, h6, h7⟩, hr⟩ := hs
  injection h2 with e1 e2 e3
  subst e1; subst e3
  have hl : ((zs.drop i).take (j - i)).length = j - i := by simp; omega
  refine ⟨⟨by simp, cutA a c i 1, c - i, by rw [hl], by omega, by omega, by omega, fun hn => ?_, fun m v hm => ?_⟩, fun z hz => hr z (List.mem_of_mem_drop (List.mem_of_mem_take hz))⟩
  · unfold cutA at hn
    split at hn
    · omega
    · cases a with
      | none => have := h6 rfl; omega
      | some q => simp at hn
  · rw [List.map_take, List.map_drop, List.getElem?_take] at hm
    split at hm
    · rename_i hmj
      rw [List.getElem?_drop] at hm
      have hne : ¬ c = i := by omega
      have := h7 (i + m) v hm
      unfold cutA
      rw [if_neg hne]
      cases a with
      | none => simp [elemCell] at this
      | some q =>
        simp only [elemCell, Option.map_some, Nat.mul_one, add_add'] at this ⊢
        exact this
    · cases hm
@[go_sem ↓] theorem xBuiltin_min {ty : Nat} (ats : Array Nat) (k l : IntKind) (a b : Int) (L : Own) (h : PH) (K : PK) : xBuiltin P .min ats ty [.int k a, .int l b] L h K = K (.int k (min a b)) L h := by
  have : xMM P false ats ty [.int k a, .int l b] (fun r => xPut r (fun r => K r L h) ⟨⟩) = K (.int k (min a b)) L h := by
    refine xRun_of (fun W => ?_) _
    simp [Builtin.min_, Builtin.min2, Int.min_def]
    omega
  exact this
@[go_sem ↓] theorem xNC_some (p : Addr) (K : Value → Prop) (t : Tok K) : xNC (.pointer (some p)) K t = K (.pointer (some p)) := by simp [xNC]
/-- the own blocks are unlike -/
def Nd : Own → Prop
  | [] => True
  | e :: L => Apart e.b L ∧ Nd L
theorem Nd.of : ∀ {L : Own}, (L.map Blk.b).Nodup → Nd L
  | [], _ => trivial
  | e :: L, hn => by
    simp only [List.map_cons, List.nodup_cons] at hn
    exact ⟨apart_of fun x hx hb => hn.1 (by rw [← hb]; exact List.mem_map_of_mem hx), Nd.of hn.2⟩
/-- a function is entered with what is so of its own blocks -/
theorem x_enterA {f : FuncId} {fn : Func} {c : Code} {rs : List ResultVar} {args : List Value} {L : Own} {h : PH} {K : PK} {nt : Nat}
    (hf : P.funcs[f]? = some fn) (hb : fn.body = some c) (hr : fn.results.toList = rs) (hnt : fn.ntmps = nt) (hm : P.follows .mixedOrders = true) (hname : (fn.name == "runtime.NumGoroutine") = false)
    (hw : wfC nt c = true) (hl : decide (args.length ≤ nt) = true) (hx : Ap L h → Nd L → xC P c (retQ P rs K) (xEnv args 0) L h) : Spec P f args L h K :=
  ⟨⟨fn, hf, hname, by rw [hb]; rfl⟩, fun W hg => (x_enter hf hb hr hnt hm hname hw hl (hx (Ap.of hg.apart) (Nd.of hg.nodup))).2 W hg⟩
theorem fin_app {K : PK} {v : Value} {L : Own} {h : PH} (L0 : Own) (hk : K v L h) : fin K v (L0 ++ L) h := by
  induction L0 with
  | nil => exact fin_here hk
  | cons e L0 ih => exact fin_tail ih
theorem ovs_open {o : Option (Nat × Nat)} {n : Nat} (ho : okO o n) : ∃ a c, ovs o n = .slice a n c ∧ n ≤ c := by
  cases o with
  | none => have : n = 0 := ho; subst this; exact ⟨none, 0, rfl, Nat.le_refl _⟩
  | some p => obtain ⟨b, cap⟩ := p; exact ⟨_, _, rfl, ho.1⟩
theorem oent_perm {e sz : Nat} {o : Option (Nat × Nat)} {xs : List Value} {x : Blk} {L : Own} : (x :: oent e sz o xs L).Perm (oent e sz o xs (x :: L)) := by
  cases o with
  | none => exact List.Perm.refl _
  | some p => exact List.Perm.swap _ _ _
theorem fin_perm {K : PK} {v : Value} {L L' : Own} {h : PH} (hp : L.Perm L') (hf : fin K v L' h) : fin K v L h := by
  obtain ⟨L2, h2, hd, hk⟩ := hf
  exact ⟨L2, h2, (Drop.perm h hp).trans hd, hk⟩
/-- a call's answer may be met with what is so of the own blocks -/
theorem Spec.apn {f : FuncId} {args : List Value} {L : Own} {h : PH} {K : PK} (hs : Spec P f args L h fun v L' h' => Ap L' h' → Nd L' → K v L' h') : Spec P f args L h K :=
  ⟨hs.1, fun W hg => (hs.2 W hg).mono fun _ _ ⟨r, L', h', e, k, st⟩ => ⟨r, L', h', e, k (Ap.of st.1.apart) (Nd.of st.1.nodup), st⟩⟩
@[go_sem ↓] theorem xSt_ovs {L : Own} (g : Bool) (z : List Value) (by' b k : Nat) (K : Own → Prop) (o : Option (Nat × Nat)) (n : Nat) : xSt ⟨1, g, z, by'⟩ L (some ⟨b, k, none⟩) (ovs o n) K = xSet L b k [ovs o n] K := xSt_own g z by' b k _ K (ovs_one o n)
theorem Drop.oent (e sz : Nat) (o : Option (Nat × Nat)) (xs : List Value) (L : Own) (h : PH) : Drop (oent e sz o xs L) h L h := by
  cases o with
  | none => exact Drop.refl _ _
  | some p => exact Drop.tail _ _ _
theorem ovs_some (b c n : Nat) : ovs (some (b, c)) n = .slice (some ⟨b, 0, none⟩) n c := rfl
theorem oent_some (e sz b c : Nat) (xs : List Value) (L : Own) : oent e sz (some (b, c)) xs L = ⟨b, e, xs, c * sz⟩ :: L := rfl
theorem Drop.mem {x : Blk} {L : Own} {h : PH} (hx : x ∈ L) : Drop L h [x] h := fun W hg =>
  ⟨⟨hg.sub, fun e he => by rw [List.mem_singleton.1 he]; exact hg.own x hx, by simp, fun e he => by rw [List.mem_singleton.1 he]; exact hg.apart x hx⟩, fun e he => by rw [List.mem_singleton.1 he]; exact List.mem_map_of_mem hx⟩
theorem oent_perm_app {e sz : Nat} {o : Option (Nat × Nat)} {xs : List Value} (A : Own) {L : Own} : (A ++ oent e sz o xs L).Perm (oent e sz o xs (A ++ L)) := by
  cases o with
  | none => exact List.Perm.refl _
  | some p => exact List.perm_middle
/-- a call: an own slice behind others is known from then on -/
theorem call_pub_o {e sz n : Nat} {o : Option (Nat × Nat)} {xs : List Value} (A : Own) {L : Own} {h : PH} {K : PK} {f : FuncId} {args : List Value} (ho : okO o n) (hl : xs.length = n * sz) (hn : n ≤ 9223372036854775807)
    (hk : ∀ h', PH.le h h' → Sl h' (ovs o n) n sz xs → Spec P f args (A ++ L) h' K) (hc : Callable P f) : Spec P f args (A ++ oent e sz o xs L) h K :=
  ⟨hc, fun W hg => ((call_pub (L0 := L) ho hl hn (by
      cases o with
      | none => trivial
      | some p =>
        obtain ⟨b, cap⟩ := p
        refine ⟨apart_of fun x hx hb => ?_, hg.apart ⟨b, e, xs, cap * sz⟩ (by simp [oent])⟩
        have h0 := hg.nodup
        simp only [oent, List.map_append, List.map_cons] at h0
        have h3 := List.nodup_cons.1 (List.nodup_append.1 h0).2.1
        exact h3.1 (by have hb' : x.b = b := hb; rw [← hb']; exact List.mem_map_of_mem hx)) hk).weaken (Drop.perm h (oent_perm_app A))).2 W hg⟩
theorem fin_oent {K : PK} {v : Value} {e sz : Nat} {o : Option (Nat × Nat)} {xs : List Value} {L : Own} {h : PH} (hk : fin K v L h) : fin K v (oent e sz o xs L) h := by
  cases o with
  | none => exact hk
  | some p => exact fin_tail hk
end Go.X

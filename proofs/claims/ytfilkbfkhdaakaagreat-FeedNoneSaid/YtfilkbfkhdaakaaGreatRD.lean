/- Contracts of the inbox: New, is, done, fits, Add. Conditions: the chunk's bytes are known; few chunks were taken. -/
import Derived.Test.YtfilkbfkhdaakaaGreatRC
import Derived.Test.YtfilkbfkhdaakaaGreatXM
import Derived.Laws.Cover3
set_option linter.unusedVariables false
set_option linter.unusedSimpArgs false
namespace Go.X
open Go.RowKit Go.Proofs Go.Bl
section
variable {P : Program}
theorem xBin_neints {T : Nat} {ks : List IntKind} (ht : P.underlying T = some (.struct (P.fieldsOf T))) (hp : P.stoodInHeld T = false) (hg : P.eqGuardType P.depth T = false) (hok : okF P (P.fieldsOf T).toList 0 ks = true) (ps qs : List Int) (ha : ps.length = ks.length) (hb : qs.length = ks.length)
    (x y : Operand) (K : Value → Prop) (t : Tok K) : xBin P .neq T x y (.agg (List.zipWith Value.int ks ps).toArray) (.agg (List.zipWith Value.int ks qs).toArray) K t = K (.bool (!decide (ps = qs))) :=
  xRun_of (fun W => by
    simp only [Sem.run_bind, run_eqGuard_agg W .neq T x y _ _ hg, Result.andThen_ok, run_neq_struct, run_eq_ints ht hp hok ps qs ha hb W]) K
theorem xBin_nemapnil {T kt et : TypeId} (hT : P.underlying T = some (.map kt et)) (x y : Operand) (m : Option Nat) (K : Value → Prop) (t : Tok K) : xBin P .neq T x y (.map m) (.map none) K t = K (.bool (!m.isNone)) :=
  xRun_of (fun W => by simp [eqGuard, run_neq_map_nil W T kt et m hT]) K
end
variable {L : Own} {h : PH} {K : PK}
@[go_sem ↓] theorem neHead (a b c a' b' c' : Int) (x y : Operand) (K : Value → Prop) (t : Tok K) : xBin Tryz.prog .neq 114 x y (.agg #[.int .u64 a, .int .i64 b, .int .i64 c]) (.agg #[.int .u64 a', .int .i64 b', .int .i64 c']) K t = K (.bool (!decide (a = a' ∧ b = b' ∧ c = c'))) := by
  have := xBin_neints (P := Tryz.prog) (T := 114) (ks := [.u64, .i64, .i64]) (by kernel_rfl) (by kernel_rfl) (by kernel_rfl) (by kernel_rfl) [a, b, c] [a', b', c'] rfl rfl x y K t
  rw [show decide (a = a' ∧ b = b' ∧ c = c') = decide ([a, b, c] = [a', b', c']) by simp]
  exact this
theorem mapU : Tryz.prog.underlying 115 = some (.map 3 31) := by kernel_rfl
theorem intU : Tryz.prog.underlying 3 = some (.int .i64) := by kernel_rfl
@[go_sem ↓] theorem neMap (x y : Operand) (m : Option Nat) (K : Value → Prop) (t : Tok K) : xBin Tryz.prog .neq 115 x y (.map m) (.map none) K t = K (.bool (!m.isNone)) := xBin_nemapnil mapU x y m K t
theorem zeroRow (W : World) : (zeroValue 31 : Sem Value).run Tryz.prog W = .ok (.slice none 0 0) W := by kernel_rfl
/-- an inbox: what all chunks say, how much came, what came -/
structure InS where
  feed : Int
  all : Int
  bytes : Int
  hav : Int
  ts : List (Int × QS)
def zeroIn : InS := ⟨0, 0, 0, 0, []⟩
def esT (ts : List (Int × QS)) : List (Int × Value) := ts.map fun e => (e.1, e.2.1)
def getT : List (Int × QS) → Int → Option QS
  | [], _ => none
  | e :: es, n => if n = e.1 then some e.2 else getT es n
theorem getI_esT : ∀ (ts : List (Int × QS)) (n : Int), getI (esT ts) n = (getT ts n).map Prod.fst
  | [], _ => rfl
  | e :: es, n => by
    simp only [esT, List.map_cons, getI, getT]
    split
    · rfl
    · exact getI_esT es n
theorem getT_mem : ∀ {ts : List (Int × QS)} {n : Int} {q : QS}, getT ts n = some q → (n, q) ∈ ts
  | [], _, _, h => by cases h
  | e :: es, n, q, h => by
    simp only [getT] at h
    split at h
    · rename_i c
      injection h with h
      subst h; subst c
      simp
    · exact List.mem_cons_of_mem _ (getT_mem h)
theorem putI_none {ts : List (Int × QS)} {n : Int} (h : getT ts n = none) (q : QS) : putI (esT ts) n q.1 = esT (ts ++ [(n, q)]) := by
  have h1 : getI (esT ts) n = none := by rw [getI_esT, h]; rfl
  have h2 := idxI_get (esT ts) n 0
  rw [h1] at h2
  have h3 : idxI (esT ts) n 0 = none := by
    cases hi : idxI (esT ts) n 0 with
    | none => rfl
    | some p => rw [hi] at h2; cases h2
  rw [idxI_none _ _ _ h3]
  simp [esT]
structure InOk (h : PH) (s : InS) : Prop where
  d : ∀ e ∈ s.ts, Ints h .u8 e.2.1 e.2.2
  l : s.ts.length ≤ 100000
  a : 0 ≤ s.all ∧ s.all ≤ 131072
  v : 0 ≤ s.hav ∧ s.hav ≤ 131072
theorem InOk.up {h h' : PH} (le : PH.le h h') {s : InS} (ok : InOk h s) : InOk h' s := ⟨fun e he => (ok.d e he).up le, ok.l, ok.a, ok.v⟩
abbrev iO (bi bm : Nat) (s : InS) (L : Own) : Own := ⟨bi, 117, [.int .u64 s.feed, .int .i64 s.all, .int .i64 s.bytes, .map (some bm), .int .i64 s.hav], 5⟩ :: ⟨bm, 4294967295, entI .i64 (esT s.ts), 0⟩ :: L
theorem entI_len (k : IntKind) (ts : List (Int × QS)) : (entI k (esT ts)).length = ts.length := by simp [entI, esT]
theorem inew_any (hk : ∀ bi bm, K (.pointer (some ⟨bi, 0, none⟩)) (iO bi bm zeroIn L) h) : Spec Tryz.prog 160 [] L h K := by
  refine x_enter Tryz.func160 rfl (rs := [_]) rfl rfl mixed (by kernel_rfl) rfl rfl ?_
  simp -dsimp -implicitDefEqProofs (disch := first | with_reducible assumption | omega) [go_sem]
  refine xnewmap fun bm n_bm h_bm => ?_
  simp -dsimp -implicitDefEqProofs (disch := first | with_reducible assumption | omega) [go_sem]
  refine xnew fun bi n_bi h_bi => ?_
  try simp only [Apart] at n_bi
  simp -dsimp -implicitDefEqProofs (disch := first | with_reducible assumption | omega) [go_sem]
  exact fin_here (hk bi bm)
theorem iis_any {bi bm : Nat} {s : InS} (hk : K (.bool true) (iO bi bm s L) h) : Spec Tryz.prog 162 [.pointer (some ⟨bi, 0, none⟩)] (iO bi bm s L) h K := by
  refine x_enterA Tryz.func162 rfl (rs := [_]) rfl rfl mixed (by kernel_rfl) rfl rfl fun ap nd => ?_
  obtain ⟨ap1, ap2, _⟩ := ap
  simp -dsimp -implicitDefEqProofs (disch := first | with_reducible assumption | omega) [go_sem]
  exact fin_here hk
theorem call_i {f : FuncId} {args : List Value} {bi bm : Nat} {s : InS} {x : Blk} (hs : Spec Tryz.prog f args (iO bi bm s (x :: L)) h K) : Spec Tryz.prog f args (x :: iO bi bm s L) h K :=
  hs.weaken (Drop.perm h (List.perm_middle (l₁ := [_, _])).symm)
theorem Drop.sub {L L0 : Own} {h : PH} (hs : L0.Sublist L) : Drop L h L0 h := fun W hg =>
  ⟨⟨hg.sub, fun e he => hg.own e (hs.subset he), hg.nodup.sublist (hs.map _), fun e he => hg.apart e (hs.subset he)⟩, fun e he => List.mem_map_of_mem (hs.subset he)⟩
def doneP (s : InS) : Bool := decide (0 < s.all) && decide ((s.ts.length : Int) = s.all)
theorem idone_any {bi bm : Nat} {s : InS} (hk : K (.bool (doneP s)) (iO bi bm s L) h) : Spec Tryz.prog 165 [.pointer (some ⟨bi, 0, none⟩)] (iO bi bm s L) h K := by
  unfold doneP at hk
  refine x_enterA Tryz.func165 rfl (rs := [_]) rfl rfl mixed (by kernel_rfl) rfl rfl fun ap nd => ?_
  obtain ⟨ap1, ap2, _⟩ := ap
  simp -dsimp -implicitDefEqProofs (disch := first | with_reducible assumption | omega) [go_sem]
  refine xdraw (by kernel_rfl) rfl ?_
  by_cases c : 0 < s.all
  · simp -dsimp -implicitDefEqProofs (disch := first | with_reducible assumption | omega) [go_sem]
    refine xmaplen mapU _ (List.mem_cons_of_mem _ List.mem_cons_self) ?_
    rw [entI_len]
    simp -dsimp -implicitDefEqProofs (disch := first | with_reducible assumption | omega) [go_sem]
    exact fin_here (by simpa [c] using hk)
  · simp -dsimp -implicitDefEqProofs (disch := first | with_reducible assumption | omega) [go_sem]
    exact fin_here (by simpa [c] using hk)
/-- what isn't right of a chunk here -/
def fitsP (s : InS) (c : ChunkD) : Int :=
  if 0 < s.all ∧ ¬ (c.feed = s.feed ∧ c.all = s.all ∧ c.bytes = s.bytes) then 370 else
  match getT s.ts c.place with
  | some q => if q.2 = c.data then 231 else 370
  | none => if c.bytes - s.hav - c.data.length < 0 ∨ (0 < c.bytes - s.hav - c.data.length ∧ (s.ts.length : Int) + 1 = c.all) then 370 else 0
set_option maxHeartbeats 1600000 in
set_option maxRecDepth 20000 in
theorem ifits_any {bi bm : Nat} {s : InS} {c : ChunkD} (dv : Value) (hdv : Ints h .u8 dv c.data) (ok : InOk h s) (hb : 0 ≤ c.bytes ∧ c.bytes ≤ 131072) (hdl : c.data.length ≤ 100000)
    (hk : K (.int .i64 (fitsP s c)) (iO bi bm s L) h) : Spec Tryz.prog 164 [.pointer (some ⟨bi, 0, none⟩), chV c dv] (iO bi bm s L) h K := by
  have hdv0 := hdv
  have od := hdv.open
  obtain ⟨x1, y1, rfl, _⟩ := od
  obtain ⟨od1, od2, od3, od4⟩ := ok
  unfold fitsP at hk
  refine x_enterA Tryz.func164 rfl (rs := [_]) rfl rfl mixed (by kernel_rfl) rfl rfl fun ap nd => ?_
  obtain ⟨ap1, ap2, _⟩ := ap
  simp -dsimp -implicitDefEqProofs (disch := first | with_reducible assumption | omega) [go_sem]
  refine xnew fun b3 n_b3 h_b3 => ?_
  try simp only [Apart] at n_b3
  simp -dsimp -implicitDefEqProofs (disch := first | with_reducible assumption | omega) [go_sem]
  refine xdraw (by kernel_rfl) rfl ?_
  by_cases ca : 0 < s.all
  · by_cases cb : c.feed = s.feed ∧ c.all = s.all ∧ c.bytes = s.bytes
    · rw [if_neg (by simp [cb])] at hk
      simp -dsimp -implicitDefEqProofs (disch := first | with_reducible assumption | omega) [go_sem, decide_eq_true cb]
      refine xdraw (by kernel_rfl) rfl ?_
      simp -dsimp -implicitDefEqProofs (disch := first | with_reducible assumption | omega) [go_sem]
      refine xlookup_i mapU intU zeroRow (esT s.ts) (List.mem_cons_of_mem _ (List.mem_cons_of_mem _ List.mem_cons_self)) ?_
      rw [getI_esT]
      cases hg : getT s.ts c.place with
      | some q =>
        obtain ⟨qv, qd⟩ := q
        have hq : Ints h .u8 qv qd := od1 _ (getT_mem hg)
        rw [hg] at hk
        simp only at hk
        have hq0 := hq
        have oq := hq.open
        obtain ⟨x2, y2, rfl, _⟩ := oq
        simp only [Option.map_some, Option.getD_some, Option.isSome_some, if_true]
        simp -dsimp -implicitDefEqProofs (disch := first | with_reducible assumption | omega) [go_sem]
        refine equal8 _ _ hq0 hdv0 ?_
        by_cases e : qd = c.data
        · rw [if_pos e] at hk
          rw [decide_eq_true e]
          simp -dsimp -implicitDefEqProofs (disch := first | with_reducible assumption | omega) [go_sem]
          exact fin_tail (fin_here hk)
        · rw [if_neg e] at hk
          rw [decide_eq_false e]
          simp -dsimp -implicitDefEqProofs (disch := first | with_reducible assumption | omega) [go_sem]
          exact fin_tail (fin_here hk)
      | none =>
        rw [hg] at hk
        simp only at hk
        simp only [Option.map_none, Option.getD_none, Option.isSome_none, if_true]
        simp -dsimp -implicitDefEqProofs (disch := first | with_reducible assumption | omega) [go_sem]
        refine xdraw (by kernel_rfl) rfl ?_
        simp -dsimp -implicitDefEqProofs (disch := first | with_reducible assumption | omega) [go_sem]
        refine xdraw (by kernel_rfl) rfl ?_
        by_cases l1 : c.bytes - s.hav - c.data.length < 0
        · rw [if_pos (Or.inl l1)] at hk
          simp -dsimp -implicitDefEqProofs (disch := first | with_reducible assumption | omega) [go_sem]
          exact fin_tail (fin_here hk)
        by_cases l2 : 0 < c.bytes - s.hav - c.data.length
        · simp -dsimp -implicitDefEqProofs (disch := first | with_reducible assumption | omega) [go_sem]
          refine xmaplen mapU _ (List.mem_cons_of_mem _ (List.mem_cons_of_mem _ List.mem_cons_self)) ?_
          rw [entI_len]
          by_cases l3 : (s.ts.length : Int) + 1 = c.all
          · rw [if_pos (Or.inr ⟨l2, l3⟩)] at hk
            simp -dsimp -implicitDefEqProofs (disch := first | with_reducible assumption | omega) [go_sem]
            exact fin_tail (fin_here hk)
          · rw [if_neg (by omega)] at hk
            simp -dsimp -implicitDefEqProofs (disch := first | with_reducible assumption | omega) [go_sem]
            exact fin_tail (fin_here hk)
        · rw [if_neg (by omega)] at hk
          simp -dsimp -implicitDefEqProofs (disch := first | with_reducible assumption | omega) [go_sem]
          exact fin_tail (fin_here hk)
    · rw [if_pos ⟨ca, cb⟩] at hk
      simp -dsimp -implicitDefEqProofs (disch := first | with_reducible assumption | omega) [go_sem, decide_eq_false cb]
      exact fin_tail (fin_here hk)
  · rw [if_neg (by simp [ca])] at hk
    simp -dsimp -implicitDefEqProofs (disch := first | with_reducible assumption | omega) [go_sem]
    refine xdraw (by kernel_rfl) rfl ?_
    simp -dsimp -implicitDefEqProofs (disch := first | with_reducible assumption | omega) [go_sem]
    refine xlookup_i mapU intU zeroRow (esT s.ts) (List.mem_cons_of_mem _ (List.mem_cons_of_mem _ List.mem_cons_self)) ?_
    rw [getI_esT]
    cases hg : getT s.ts c.place with
    | some q =>
      obtain ⟨qv, qd⟩ := q
      have hq : Ints h .u8 qv qd := od1 _ (getT_mem hg)
      rw [hg] at hk
      simp only at hk
      have hq0 := hq
      have oq := hq.open
      obtain ⟨x2, y2, rfl, _⟩ := oq
      simp only [Option.map_some, Option.getD_some, Option.isSome_some, if_true]
      simp -dsimp -implicitDefEqProofs (disch := first | with_reducible assumption | omega) [go_sem]
      refine equal8 _ _ hq0 hdv0 ?_
      by_cases e : qd = c.data
      · rw [if_pos e] at hk
        rw [decide_eq_true e]
        simp -dsimp -implicitDefEqProofs (disch := first | with_reducible assumption | omega) [go_sem]
        exact fin_tail (fin_here hk)
      · rw [if_neg e] at hk
        rw [decide_eq_false e]
        simp -dsimp -implicitDefEqProofs (disch := first | with_reducible assumption | omega) [go_sem]
        exact fin_tail (fin_here hk)
    | none =>
      rw [hg] at hk
      simp only at hk
      simp only [Option.map_none, Option.getD_none, Option.isSome_none, if_true]
      simp -dsimp -implicitDefEqProofs (disch := first | with_reducible assumption | omega) [go_sem]
      refine xdraw (by kernel_rfl) rfl ?_
      simp -dsimp -implicitDefEqProofs (disch := first | with_reducible assumption | omega) [go_sem]
      refine xdraw (by kernel_rfl) rfl ?_
      by_cases l1 : c.bytes - s.hav - c.data.length < 0
      · rw [if_pos (Or.inl l1)] at hk
        simp -dsimp -implicitDefEqProofs (disch := first | with_reducible assumption | omega) [go_sem]
        exact fin_tail (fin_here hk)
      by_cases l2 : 0 < c.bytes - s.hav - c.data.length
      · simp -dsimp -implicitDefEqProofs (disch := first | with_reducible assumption | omega) [go_sem]
        refine xmaplen mapU _ (List.mem_cons_of_mem _ (List.mem_cons_of_mem _ List.mem_cons_self)) ?_
        rw [entI_len]
        by_cases l3 : (s.ts.length : Int) + 1 = c.all
        · rw [if_pos (Or.inr ⟨l2, l3⟩)] at hk
          simp -dsimp -implicitDefEqProofs (disch := first | with_reducible assumption | omega) [go_sem]
          exact fin_tail (fin_here hk)
        · rw [if_neg (by omega)] at hk
          simp -dsimp -implicitDefEqProofs (disch := first | with_reducible assumption | omega) [go_sem]
          exact fin_tail (fin_here hk)
      · rw [if_neg (by omega)] at hk
        simp -dsimp -implicitDefEqProofs (disch := first | with_reducible assumption | omega) [go_sem]
        exact fin_tail (fin_here hk)
/-- Add: whether no place is missing, an error, what is so then -/
def addP (s : InS) (xs : List Int) (dv : Value) : Bool × Int × InS :=
  let c := (parseC xs).1
  let e := if (parseC xs).2 = 0 then fitsP s c else (parseC xs).2
  if e ≠ 0 then (doneP s, e, s) else
  let s' : InS := ⟨c.feed, c.all, c.bytes, s.hav + c.data.length, s.ts ++ [(c.place, (dv, c.data))]⟩
  (doneP s', 0, s')
theorem fits_none {s : InS} {c : ChunkD} (h : fitsP s c = 0) : getT s.ts c.place = none ∧ 0 ≤ c.bytes - s.hav - c.data.length := by
  unfold fitsP at h
  split at h
  · simp at h
  · split at h
    · split at h <;> simp at h
    · rename_i hg
      split at h
      · simp at h
      · exact ⟨hg, by omega⟩
theorem parse_ok {xs : List Int} (hz : ∀ z ∈ xs, 0 ≤ z ∧ z ≤ 255) : (0 ≤ (parseC xs).1.feed ∧ (parseC xs).1.feed ≤ 18446744073709551615) ∧ (0 ≤ (parseC xs).1.all ∧ (parseC xs).1.all ≤ 131072) ∧ (0 ≤ (parseC xs).1.bytes ∧ (parseC xs).1.bytes ≤ 131072) ∧ (0 ≤ (parseC xs).1.place ∧ (parseC xs).1.place ≤ 131072) ∧ (parseC xs).1.data.length ≤ xs.length := by
  have z1 := rNum_pos xs (0, 0) 18446744073709551615 hz (Nat.zero_le _) (by decide)
  have z2 := rNum_pos xs (rNum xs (0, 0) 18446744073709551615).2 131072 hz z1.1 (by decide)
  have z3 := rNum_pos xs (rNum xs (rNum xs (0, 0) 18446744073709551615).2 131072).2 131072 hz z2.1 (by decide)
  have z4 := rNum_pos xs (rNum xs (rNum xs (rNum xs (0, 0) 18446744073709551615).2 131072).2 131072).2 131072 hz z3.1 (by decide)
  have z5 : ∀ s most, (rRaw xs s most).1.length ≤ xs.length := fun s most => by
    simp only [rRaw]
    split
    · simp
    split
    · simp
    split
    · simp
    · simp only [List.length_take, List.length_drop]; omega
  simp only [parseC]
  split
  · simp [zeroCh]
  split
  · simp [zeroCh]
  split
  · simp [zeroCh]
  · exact ⟨z1.2, z3.2, z4.2, z2.2, z5 _ _⟩
set_option maxHeartbeats 1600000 in
set_option maxRecDepth 20000 in
theorem iadd_any {bi bm : Nat} {s : InS} {xs : List Int} (v : Value) (hx0 : Ints h .u8 v xs) (hl : xs.length ≤ 100000) (ok : InOk h s) (hlen : s.ts.length < 100000)
    (hk : ∀ h' dv, PH.le h h' → InOk h' (addP s xs dv).2.2 → K (.tuple #[.bool (addP s xs dv).1, .int .i64 (addP s xs dv).2.1]) (iO bi bm (addP s xs dv).2.2 L) h') : Spec Tryz.prog 55 [.pointer (some ⟨bi, 0, none⟩), v] (iO bi bm s L) h K := by
  have hz := byte_of hx0
  have hp := parse_ok hz
  have ox := hx0.open
  obtain ⟨xa, xc, rfl, _⟩ := ox
  obtain ⟨c, e, hpc⟩ : ∃ c e, parseC xs = (c, e) := ⟨_, _, rfl⟩
  rw [hpc] at hp
  simp only at hp
  obtain ⟨p1, p2, p3, p4, p5⟩ := hp
  refine x_enterA Tryz.func55 rfl (rs := [_, _]) rfl rfl mixed (by kernel_rfl) rfl rfl fun ap nd => ?_
  obtain ⟨ap1, ap2, _⟩ := ap
  simp only [Nd, Apart] at nd
  obtain ⟨⟨nd1, _⟩, _⟩ := nd
  simp -dsimp -implicitDefEqProofs (disch := first | with_reducible assumption | omega) [go_sem]
  refine iis_any ?_
  simp -dsimp -implicitDefEqProofs (disch := first | with_reducible assumption | omega) [go_sem]
  refine Spec.apn (fparse_any _ hx0 (by omega) fun h2 dv le2 hd2 ap nd => ?_)
  rw [hpc] at hd2 ⊢
  simp only at hd2 ⊢
  simp only [iO, Ap] at ap
  obtain ⟨u1, u2, _⟩ := ap
  have hd2' := hd2
  have od := hd2.open
  obtain ⟨x2, y2, rfl, _⟩ := od
  have ok2 := ok.up le2
  simp -dsimp -implicitDefEqProofs (disch := first | with_reducible assumption | omega) [go_sem]
  refine xnew fun b6 n_b6 h_b6 => ?_
  try simp only [Apart] at n_b6
  simp -dsimp -implicitDefEqProofs (disch := first | with_reducible assumption | omega) [go_sem]
  by_cases ce : e = 0
  rotate_left
  · have ea : addP s xs (.slice x2 c.data.length y2) = (doneP s, e, s) := by simp only [addP, hpc, if_neg ce]; rw [if_pos ce]
    have := hk h2 (.slice x2 c.data.length y2) le2 (by rw [ea]; exact ok2)
    rw [ea] at this
    simp -dsimp -implicitDefEqProofs (disch := first | with_reducible assumption | omega) [go_sem]
    refine call_drop (idone_any ?_)
    simp -dsimp -implicitDefEqProofs (disch := first | with_reducible assumption | omega) [go_sem]
    exact fin_here this
  subst ce
  simp -dsimp -implicitDefEqProofs (disch := first | with_reducible assumption | omega) [go_sem]
  have eA : ∀ dv, addP s xs dv = if fitsP s c ≠ 0 then (doneP s, fitsP s c, s) else (doneP ⟨c.feed, c.all, c.bytes, s.hav + c.data.length, s.ts ++ [(c.place, (dv, c.data))]⟩, 0, ⟨c.feed, c.all, c.bytes, s.hav + c.data.length, s.ts ++ [(c.place, (dv, c.data))]⟩) := fun dv => by
    simp only [addP, hpc, if_true]
  refine call_i (ifits_any _ hd2' ok2 p3 (by omega) ?_)
  by_cases cf : fitsP s c = 0
  rotate_left
  · have := hk h2 (.slice x2 c.data.length y2) le2 (by rw [eA, if_pos cf]; exact ok2)
    rw [eA, if_pos cf] at this
    simp -dsimp -implicitDefEqProofs (disch := first | with_reducible assumption | omega) [go_sem]
    refine idone_any ?_
    simp -dsimp -implicitDefEqProofs (disch := first | with_reducible assumption | omega) [go_sem]
    exact fin_perm (List.perm_middle (l₁ := [_, _])) (fin_tail (fin_here this))
  obtain ⟨hg, hleft⟩ := fits_none cf
  simp -dsimp -implicitDefEqProofs (disch := first | with_reducible assumption | omega) [go_sem, cf]
  refine xanyl (.tk 0 (.tk 1 (.tk 2 (.tk 4 (.tk 6 (.tkl 3 (.tkl 5 (.tkl 7 (.or true 8 (.fin) (.nil)))))))))) (by kernel_rfl) (by kernel_rfl) [⟨bi, 117, [.int .u64 c.feed, .int .i64 c.all, .int .i64 c.bytes, .map (some bm), .int .i64 s.hav], 5⟩, ⟨b6, 253, chC c (.slice x2 c.data.length y2), 5⟩] (Drop.sub (List.Sublist.cons_cons _ (List.Sublist.cons _ (List.Sublist.cons_cons _ (List.nil_sublist _))))) ?_
  simp -dsimp -implicitDefEqProofs (disch := first | with_reducible assumption | omega) [go_sem]
  refine xupdate_i mapU intU [_] _ (esT s.ts) ?_
  rw [putI_none hg (.slice x2 c.data.length y2, c.data)]
  refine xkp (Drop.sub (List.Sublist.cons_cons _ (List.Sublist.cons _ (List.Sublist.cons_cons _ (List.nil_sublist _))))) ?_
  simp -dsimp -implicitDefEqProofs (disch := first | with_reducible assumption | omega) [go_sem]
  refine xanyl (.tk 0 (.tk 1 (.tk 2 (.tk 4 (.tkl 3 (.tkl 5 (.tk 6 (.tk 7 (.tk 8 (.tk 9 (.or false 10 (.fin) (.nil)))))))))))) (by kernel_rfl) (by kernel_rfl) _ (Drop.refl _ _) ?_
  have hv1 := ok.v
  simp -dsimp -implicitDefEqProofs (disch := first | with_reducible assumption | omega) [go_sem]
  refine idone_any (s := ⟨c.feed, c.all, c.bytes, s.hav + c.data.length, s.ts ++ [(c.place, (.slice x2 c.data.length y2, c.data))]⟩) ?_
  have ok3 : InOk h2 ⟨c.feed, c.all, c.bytes, s.hav + c.data.length, s.ts ++ [(c.place, (.slice x2 c.data.length y2, c.data))]⟩ := by
    refine ⟨fun e he => ?_, by simp only [List.length_append, List.length_singleton]; omega, p2, ⟨by simp only; omega, by simp only; omega⟩⟩
    rcases List.mem_append.1 he with he | he
    · exact ok2.d e he
    · rw [List.mem_singleton.1 he]; exact hd2'
  have := hk h2 (.slice x2 c.data.length y2) le2 (by rw [eA, if_neg (by simpa using cf)]; exact ok3)
  rw [eA, if_neg (by simpa using cf)] at this
  simp -dsimp -implicitDefEqProofs (disch := first | with_reducible assumption | omega) [go_sem]
  exact fin_perm (List.perm_middle (l₁ := [_, _])) (fin_tail (fin_here this))
/-- what all chunks carry -/
def txtP (s : InS) (n : Nat) : List Int := (List.range n).flatMap fun i : Nat => ((getT s.ts (i : Int)).map Prod.snd).getD []
theorem txtP_succ (s : InS) (n : Nat) : txtP s (n + 1) = txtP s n ++ ((getT s.ts (n : Int)).map Prod.snd).getD [] := by simp [txtP, List.range_succ, List.flatMap_append]
set_option maxHeartbeats 1600000 in
set_option maxRecDepth 20000 in
theorem itext_any {bi bm : Nat} {s : InS} (ok : InOk h s) (hsz : ∀ n, n ≤ s.all.toNat → (txtP s n).length ≤ 1000000)
    (hk : ∀ h' r, PH.le h h' → (if doneP s = true then Ints h' .u8 r (txtP s s.all.toNat) else r = .slice none 0 0) → K (.tuple #[r, .bool (doneP s)]) (iO bi bm s L) h') : Spec Tryz.prog 56 [.pointer (some ⟨bi, 0, none⟩)] (iO bi bm s L) h K := by
  obtain ⟨od1, od2, od3, od4⟩ := ok
  refine x_enterA Tryz.func56 rfl (rs := [_, _]) rfl rfl mixed (by kernel_rfl) rfl rfl fun ap nd => ?_
  obtain ⟨ap1, ap2, _⟩ := ap
  simp only [Nd, Apart] at nd
  obtain ⟨⟨nd1, _⟩, _⟩ := nd
  simp -dsimp -implicitDefEqProofs (disch := first | with_reducible assumption | omega) [go_sem]
  refine iis_any ?_
  simp -dsimp -implicitDefEqProofs (disch := first | with_reducible assumption | omega) [go_sem]
  refine idone_any ?_
  cases hd : doneP s with
  | false =>
    rw [hd] at hk
    simp -dsimp -implicitDefEqProofs (disch := first | with_reducible assumption | omega) [go_sem]
    exact fin_here (hk h _ (PH.le_refl _) (by simp))
  | true =>
  rw [hd] at hk
  simp -dsimp -implicitDefEqProofs (disch := first | with_reducible assumption | omega) [go_sem]
  obtain ⟨aN, haN⟩ := Int.eq_ofNat_of_zero_le od3.1
  rw [haN] at hk hsz ⊢
  simp only [Int.toNat_natCast] at hk hsz
  refine xloop (γ := Nat × Option (Nat × Nat)) (0, none) (fun t => t.1 ≤ aN ∧ okO t.2 (txtP s t.1).length ∧ apO t.2 (iO bi bm s L) h) (fun t => [(19, .int .i64 t.1), (18, .int .i64 aN), (4, ovs t.2 (txtP s t.1).length), (0, .pointer (some ⟨bi, 0, none⟩))])
    (fun t => oent 5 1 t.2 ((txtP s t.1).map (.int .u8)) (iO bi bm s L)) (fun _ => h) (fun t => aN - t.1) ?_ ?_ ?_ ?_
  · exact ⟨Nat.zero_le _, rfl, trivial⟩
  · simp [Ent, List.lookup, xEnv, ovs, txtP]
  · exact Drop.refl _ _
  rintro ⟨k, o⟩ ⟨i1, i2, i3⟩
  simp only at i1 i2 i3 ⊢
  have hs1 := hsz k i1
  have mb : apB o bi := i3.head
  by_cases c1 : k < aN
  · have hs2 := hsz (k + 1) c1
    simp -dsimp -implicitDefEqProofs (disch := first | with_reducible assumption | omega) [go_sem, xFind_oent mb]
    refine xlookup_i mapU intU zeroRow (esT s.ts) (by cases o <;> simp [oent]) ?_
    rw [getI_esT]
    rw [txtP_succ] at hs2
    have es := txtP_succ s k
    cases hg : getT s.ts k with
    | some q =>
      obtain ⟨qv, qd⟩ := q
      have hq : Ints h .u8 qv qd := od1 _ (getT_mem hg)
      rw [hg] at es hs2
      simp only [Option.map_some, Option.getD_some, List.length_append] at es hs2
      simp only [Option.map_some, Option.getD_some, Option.isSome_some, Bool.false_eq_true, if_false]
      simp -dsimp -implicitDefEqProofs (disch := first | with_reducible assumption | omega) [go_sem]
      refine xappend (t := 31) (e := 5) (sz := 1) (bytes := 1) (z := [.int .u8 0]) (by kernel_rfl) tI_5 rfl rfl rfl rfl (by decide) [] _ o (txtP s k).length ((txtP s k).map (.int .u8)) i2 (by simp) (m := qd.length) (Src.known hq.1) (by simp) (ints_one _ _) (by simp only [maxLen]; omega) (by omega) ?_
      intro o3 j1 j2 j3
      rw [← List.map_append, ← List.length_append, ← es] at *
      simp -dsimp -implicitDefEqProofs (disch := first | with_reducible assumption | omega) [go_sem]
      exact ⟨k + 1, o3, ⟨by omega, j1, j2⟩, by omega, by simp [Ent, List.lookup], Drop.refl _ _⟩
    | none =>
      rw [hg] at es hs2
      simp only [Option.map_none, Option.getD_none, List.append_nil] at es hs2
      simp only [Option.map_none, Option.getD_none, Option.isSome_none, Bool.false_eq_true, if_false]
      simp -dsimp -implicitDefEqProofs (disch := first | with_reducible assumption | omega) [go_sem]
      refine xappend (t := 31) (e := 5) (sz := 1) (bytes := 1) (z := [.int .u8 0]) (by kernel_rfl) tI_5 rfl rfl rfl rfl (by decide) [] _ o (txtP s k).length ((txtP s k).map (.int .u8)) i2 (by simp) (m := 0) (news := []) (Src.known (nil_ints h .u8).1) (by simp) (by simp) (by simp only [maxLen]; omega) (by omega) ?_
      intro o3 j1 j2 j3
      simp only [List.append_nil, Nat.add_zero] at j1 j2 j3 ⊢
      rw [← es] at *
      simp -dsimp -implicitDefEqProofs (disch := first | with_reducible assumption | omega) [go_sem]
      exact ⟨k + 1, o3, ⟨by omega, j1, j2⟩, by omega, by simp [Ent, List.lookup], Drop.refl _ _⟩
  · have hkl : k = aN := by omega
    subst hkl
    have hb : ∀ z ∈ txtP s k, 0 ≤ z ∧ z ≤ 255 := fun z hz => by
      obtain ⟨i, _, hz⟩ := List.mem_flatMap.1 hz
      cases hg : getT s.ts i with
      | none => rw [hg] at hz; simp at hz
      | some q => rw [hg] at hz; exact byte_of (od1 _ (getT_mem hg)) z (by simpa using hz)
    simp -dsimp -implicitDefEqProofs (disch := first | with_reducible assumption | omega) [go_sem]
    exact fin_pub (n := (txtP s k).length) i2 (by simp) (by omega) i3 fun h' le sl => fin_here (hk h' _ le (by simpa using form_ints hb sl))
end Go.X

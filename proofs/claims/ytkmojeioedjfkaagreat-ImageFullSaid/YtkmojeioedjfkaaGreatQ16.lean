/- Lemmas and contracts for a statement about the given program. Conditions: as each says. -/
import Derived.Test.YtkmojeioedjfkaaGreatQ07
import Derived.Test.YtkmojeioedjfkaaGreatQ11
import Derived.Test.YtkmojeioedjfkaaGreatQ14
import Derived.Test.YtkmojeioedjfkaaGreatQ15
set_option linter.unusedVariables false
set_option linter.unusedSimpArgs false
set_option maxHeartbeats 12800000
set_option maxRecDepth 20000
namespace Go.X
open Go.RowKit Go.Proofs Go.Bl
variable {L : Own} {h : PH} {K : PK}
abbrev penW (bw : Nat) : Value := .iface 94 (.pointer (some ⟨bw, 0, none⟩))
abbrev iwO (bw : Nat) (o : Option (Nat × Nat)) (B : List Int) (A L : Own) : Own := wG 100 3 [.int .i64 0] bw o (B, 0) A L
theorem penW_num (bw : Nat) (W : World) : (method (Tryz.prog.types.size + Made.depth) 94 (.pointer (some ⟨bw, 0, none⟩)) "bullion/image.num").run Tryz.prog W = .ok (259, .pointer (some ⟨bw, 0, none⟩)) W := by kernel_rfl
theorem penW_int (bw : Nat) (W : World) : (method (Tryz.prog.types.size + Made.depth) 94 (.pointer (some ⟨bw, 0, none⟩)) "bullion/image.int").run Tryz.prog W = .ok (258, .pointer (some ⟨bw, 0, none⟩)) W := by kernel_rfl
theorem penW_flag (bw : Nat) (W : World) : (method (Tryz.prog.types.size + Made.depth) 94 (.pointer (some ⟨bw, 0, none⟩)) "bullion/image.flag").run Tryz.prog W = .ok (257, .pointer (some ⟨bw, 0, none⟩)) W := by kernel_rfl
theorem penW_raw (bw : Nat) (W : World) : (method (Tryz.prog.types.size + Made.depth) 94 (.pointer (some ⟨bw, 0, none⟩)) "bullion/image.raw").run Tryz.prog W = .ok (261, .pointer (some ⟨bw, 0, none⟩)) W := by kernel_rfl
theorem penW_params (bw : Nat) (W : World) : (method (Tryz.prog.types.size + Made.depth) 94 (.pointer (some ⟨bw, 0, none⟩)) "bullion/image.params").run Tryz.prog W = .ok (260, .pointer (some ⟨bw, 0, none⟩)) W := by kernel_rfl
theorem penW_count (bw : Nat) (W : World) : (method (Tryz.prog.types.size + Made.depth) 94 (.pointer (some ⟨bw, 0, none⟩)) "bullion/image.count").run Tryz.prog W = .ok (256, .pointer (some ⟨bw, 0, none⟩)) W := by kernel_rfl
theorem pnW_num (bw : Nat) (K : Value → Prop) (t : Tok K) : xNC Tryz.prog (.func (.method "bullion/image.num") #[penW bw] #[]) K t = K (.func (.method "bullion/image.num") #[penW bw] #[]) := xNC_meth (fun W => by kernel_rfl) K t
theorem pnW_int (bw : Nat) (K : Value → Prop) (t : Tok K) : xNC Tryz.prog (.func (.method "bullion/image.int") #[penW bw] #[]) K t = K (.func (.method "bullion/image.int") #[penW bw] #[]) := xNC_meth (fun W => by kernel_rfl) K t
theorem pnW_flag (bw : Nat) (K : Value → Prop) (t : Tok K) : xNC Tryz.prog (.func (.method "bullion/image.flag") #[penW bw] #[]) K t = K (.func (.method "bullion/image.flag") #[penW bw] #[]) := xNC_meth (fun W => by kernel_rfl) K t
theorem pnW_raw (bw : Nat) (K : Value → Prop) (t : Tok K) : xNC Tryz.prog (.func (.method "bullion/image.raw") #[penW bw] #[]) K t = K (.func (.method "bullion/image.raw") #[penW bw] #[]) := xNC_meth (fun W => by kernel_rfl) K t
theorem pnW_params (bw : Nat) (K : Value → Prop) (t : Tok K) : xNC Tryz.prog (.func (.method "bullion/image.params") #[penW bw] #[]) K t = K (.func (.method "bullion/image.params") #[penW bw] #[]) := xNC_meth (fun W => by kernel_rfl) K t
theorem pnW_count (bw : Nat) (K : Value → Prop) (t : Tok K) : xNC Tryz.prog (.func (.method "bullion/image.count") #[penW bw] #[]) K t = K (.func (.method "bullion/image.count") #[penW bw] #[]) := xNC_meth (fun W => by kernel_rfl) K t
def RdW (bw : Nat) (A L : Own) (h : PH) (L0 : Own) : Prop := ∀ o B h', PH.le h h' → Drop (iwO bw o B A L) h' L0 h
theorem RdW.nil (bw : Nat) (A L : Own) (h : PH) : RdW bw A L h [] := fun o B h' le => (Drop.forget le).trans fun W hg =>
 ⟨⟨hg.sub, (fun e he => by cases he), List.nodup_nil, (fun e he => by cases he)⟩, (fun e he => by cases he)⟩
theorem RdW.mem {bw : Nat} {A : Own} (L : Own) (h : PH) {x : Blk} (hx : x ∈ A) : RdW bw A L h [x] := fun o B h' le => (Drop.forget le).trans (Drop.mem (List.mem_cons_of_mem _ (List.mem_append_left _ hx)))
theorem RdW.up {bw : Nat} {A L L0 : Own} {h h' : PH} (le : PH.le h h') (hr : RdW bw A L h L0) : RdW bw A L h' L0 → RdW bw A L h' L0 := id
theorem inum_w {bw : Nat} {o : Option (Nat × Nat)} {B : List Int} (A L0 : Own) (hd : RdW bw A L h L0) (a : Addr) (n : Int) (hrd : ∀ (K : Value → Prop) (t : Tok K), xCell L0 h (some a) 0 K t = K (.int .u64 n)) (h0 : 0 ≤ n) (hn : n ≤ 18446744073709551615) (ho : okO o B.length) (hl : B.length ≤ 130000)
  (hk : ∀ h' o' B', PH.le h h' → B' = B ++ formN n.toNat → okO o' B'.length → B'.length ≤ B.length + 10 → K (.tuple #[]) (iwO bw o' B' A L) h') :
  Spec Tryz.prog 259 [.pointer (some ⟨bw, 0, none⟩), .pointer (some a)] (iwO bw o B A L) h K := by
 refine x_enter Tryz.func259 rfl (rs := []) rfl rfl mixed (by kernel_rfl) rfl rfl ?_
 refine xanyl (.tk 0 (.tk 1 (.tk 2 (.tk 3 (.tk 4 (.tkl 5 (.or true 6 (.fin) (.nil)))))))) (by kernel_rfl) (by kernel_rfl) L0 (hd _ _ _ (PH.le_refl _)) ?_
 simp -dsimp -implicitDefEqProofs (disch := first|with_reducible assumption|omega) [go_sem]
 refine (hrd _ _).mpr ?_
 simp -dsimp -implicitDefEqProofs (disch := first|with_reducible assumption|omega) [go_sem]
 refine wnumG_ok (T := 100) (by decide) A n h0 hn ho (by omega) fun h' o' B' le e k1 k2 => ?_
 refine xkp (hd _ _ _ le) ?_
 exact fin_here (hk h' o' _ le e k1 k2)
theorem iint_w {bw : Nat} {o : Option (Nat × Nat)} {B : List Int} (A L0 : Own) (hd : RdW bw A L h L0) (a : Addr) (n : Int) (hrd : ∀ (K : Value → Prop) (t : Tok K), xCell L0 h (some a) 0 K t = K (.int .i64 n)) (h0 : 0 ≤ n) (hn : n ≤ 9223372036854775807) (ho : okO o B.length) (hl : B.length ≤ 130000)
  (hk : ∀ h' o' B', PH.le h h' → B' = B ++ formN n.toNat → okO o' B'.length → B'.length ≤ B.length + 10 → K (.tuple #[]) (iwO bw o' B' A L) h') :
  Spec Tryz.prog 258 [.pointer (some ⟨bw, 0, none⟩), .pointer (some a)] (iwO bw o B A L) h K := by
 refine x_enter Tryz.func258 rfl (rs := []) rfl rfl mixed (by kernel_rfl) rfl rfl ?_
 refine xanyl (.tk 0 (.tk 1 (.tk 2 (.tk 3 (.tk 4 (.tkl 5 (.or true 6 (.fin) (.nil)))))))) (by kernel_rfl) (by kernel_rfl) L0 (hd _ _ _ (PH.le_refl _)) ?_
 simp -dsimp -implicitDefEqProofs (disch := first|with_reducible assumption|omega) [go_sem]
 refine (hrd _ _).mpr ?_
 simp -dsimp -implicitDefEqProofs (disch := first|with_reducible assumption|omega) [go_sem]
 refine wintG_ok (T := 100) (by decide) A n h0 hn ho (by omega) fun h' o' B' le e k1 k2 => ?_
 refine xkp (hd _ _ _ le) ?_
 exact fin_here (hk h' o' _ le e k1 k2)
theorem iflag_w {bw : Nat} {o : Option (Nat × Nat)} {B : List Int} (A L0 : Own) (hd : RdW bw A L h L0) (a : Addr) (on : Bool) (hrd : ∀ (K : Value → Prop) (t : Tok K), xCell L0 h (some a) 0 K t = K (.bool on)) (ho : okO o B.length) (hl : B.length ≤ 130000)
  (hk : ∀ h' o' B', PH.le h h' → B' = B ++ formN on.toNat → okO o' B'.length → B'.length ≤ B.length + 10 → K (.tuple #[]) (iwO bw o' B' A L) h') :
  Spec Tryz.prog 257 [.pointer (some ⟨bw, 0, none⟩), .pointer (some a)] (iwO bw o B A L) h K := by
 refine x_enter Tryz.func257 rfl (rs := []) rfl rfl mixed (by kernel_rfl) rfl rfl ?_
 refine xanyl (.tk 0 (.tk 1 (.tk 2 (.tk 3 (.tk 4 (.tkl 5 (.or true 6 (.fin) (.nil)))))))) (by kernel_rfl) (by kernel_rfl) L0 (hd _ _ _ (PH.le_refl _)) ?_
 simp -dsimp -implicitDefEqProofs (disch := first|with_reducible assumption|omega) [go_sem]
 refine (hrd _ _).mpr ?_
 simp -dsimp -implicitDefEqProofs (disch := first|with_reducible assumption|omega) [go_sem]
 have hf := form10 (n := on.toNat) (by cases on <;> decide)
 refine wflagG (T := 100) (s := (B, 0)) (by decide) A on ho (by simp only; omega) fun h' o' le k => ?_
 have e : wPut (B, 0) (formN on.toNat) = (B ++ formN on.toNat, 0) := wPut_ok (by omega)
 rw [e] at k ⊢
 have k1 : okO o' (B ++ formN on.toNat).length := k
 have k2 : (B ++ formN on.toNat).length ≤ B.length + 10 := by rw [List.length_append]; omega
 have e : B ++ formN on.toNat = B ++ formN on.toNat := rfl
 refine xkp (hd _ _ _ le) ?_
 exact fin_here (hk h' o' _ le e k1 k2)
theorem iraw_w {bw : Nat} {o : Option (Nat × Nat)} {B : List Int} (A L0 : Own) (hd : RdW bw A L h L0) (a : Addr) (v : Value) (bs : List Int) (hrd : ∀ (K : Value → Prop) (t : Tok K), xCell L0 h (some a) 0 K t = K (v)) (hv : Ints h .u8 v bs) (hb : bs.length ≤ 1000) (ho : okO o B.length) (hl : B.length ≤ 130000)
  (hk : ∀ h' o' B', PH.le h h' → B' = B ++ rawN bs → okO o' B'.length → B'.length ≤ B.length + (bs.length + 10) → K (.tuple #[]) (iwO bw o' B' A L) h') :
  Spec Tryz.prog 261 [.pointer (some ⟨bw, 0, none⟩), .pointer (some a)] (iwO bw o B A L) h K := by
 refine x_enter Tryz.func261 rfl (rs := []) rfl rfl mixed (by kernel_rfl) rfl rfl ?_
 refine xanyl (.tk 0 (.tk 1 (.tk 2 (.tk 3 (.tk 4 (.tkl 5 (.or true 6 (.fin) (.nil)))))))) (by kernel_rfl) (by kernel_rfl) L0 (hd _ _ _ (PH.le_refl _)) ?_
 simp -dsimp -implicitDefEqProofs (disch := first|with_reducible assumption|omega) [go_sem]
 refine (hrd _ _).mpr ?_
 simp -dsimp -implicitDefEqProofs (disch := first|with_reducible assumption|omega) [go_sem]
 have hf := form10 (n := bs.length) (by omega)
 refine wrawG (T := 100) (s := (B, 0)) (by decide) A v hv (by omega) ho (by simp only; omega) fun h' o' le k => ?_
 have hr : (rawN bs).length ≤ bs.length + 10 := by simp only [rawN, List.length_append]; omega
 have e : wPut (B, 0) (rawN bs) = (B ++ rawN bs, 0) := wPut_ok (by omega)
 rw [e] at k ⊢
 have k1 : okO o' (B ++ rawN bs).length := k
 have k2 : (B ++ rawN bs).length ≤ B.length + (bs.length + 10) := by rw [List.length_append]; omega
 have e : B ++ rawN bs = B ++ rawN bs := rfl
 refine xkp (hd _ _ _ le) ?_
 exact fin_here (hk h' o' _ le e k1 k2)
theorem icount_w {bw : Nat} {o : Option (Nat × Nat)} {B : List Int} (A : Own) (n : Nat) (hn : n ≤ 1000000) (ho : okO o B.length) (hl : B.length ≤ 130000)
  (hk : ∀ h' o' B', PH.le h h' → B' = B ++ formN n → okO o' B'.length → B'.length ≤ B.length + 10 → K (.int .i64 n) (iwO bw o' B' A L) h') :
  Spec Tryz.prog 256 [.pointer (some ⟨bw, 0, none⟩), .int .i64 n] (iwO bw o B A L) h K := by
 refine x_enter Tryz.func256 rfl (rs := [_]) rfl rfl mixed (by kernel_rfl) rfl rfl ?_
 simp -dsimp -implicitDefEqProofs (disch := first|with_reducible assumption|omega) [go_sem]
 refine wintG_ok (T := 100) (by decide) A n (by omega) (by omega) ho (by omega) fun h' o' B' le e k1 k2 => ?_
 simp -dsimp -implicitDefEqProofs (disch := first|with_reducible assumption|omega) [go_sem]
 exact fin_here (hk h' o' _ le (by simpa using e) k1 k2)
theorem iparams_w {bw : Nat} {o : Option (Nat × Nat)} {B : List Int} (A L0 : Own) (hd : RdW bw A L h L0) (a : Addr) (p : ParD) (ok : ParOk p) (hr : parR p = true) (hrd : ∀ (zz : List Value) (by' : Nat) (K : Value → Prop) (t : Tok K), xLd ⟨24, true, zz, by'⟩ L0 h (some a) K t = K (parV p)) (ho : okO o B.length) (hl : B.length ≤ 100000)
  (hk : ∀ h' o' B', PH.le h h' → B' = B ++ encP p → okO o' B'.length → B'.length ≤ B.length + 240 → K (.tuple #[]) (iwO bw o' B' A L) h') :
  Spec Tryz.prog 260 [.pointer (some ⟨bw, 0, none⟩), .pointer (some a)] (iwO bw o B A L) h K := by
 refine x_enter Tryz.func260 rfl (rs := []) rfl rfl mixed (by kernel_rfl) rfl rfl ?_
 simp -dsimp -implicitDefEqProofs (disch := first|with_reducible assumption|omega) [go_sem]
 refine xanyl (.tk 0 (.tk 1 (.tk 2 (.tk 3 (.tk 4 (.tkl 5 (.or true 6 (.tk 7 (.fin)) (.nil)))))))) (by kernel_rfl) (by kernel_rfl) L0 (hd _ _ _ (PH.le_refl _)) ?_
 simp -dsimp -implicitDefEqProofs (disch := first|with_reducible assumption|omega) [go_sem, ↓hrd]
 refine Spec.apn (pwriteG (T := 100) (by decide) A p ok hr ho hl fun h' o' le k ap nd => ?_)
 obtain ⟨ab, _⟩ := ap
 refine xkp (hd _ _ _ le) ?_
 have hl : (encP p).length ≤ 240 := by
  have h1 := flatN_len (wides p ++ narrows p) (fun z hz => by
   rcases List.mem_append.1 hz with hz | hz
   ·have := ok.w z hz; omega
   ·have := ok.n z hz; omega)
  have h2 : (wides p ++ narrows p).length = 24 := rfl
  rw [h2] at h1
  exact h1
 simp -dsimp -implicitDefEqProofs (disch := first|with_reducible assumption|omega) [go_sem]
 exact fin_here (hk h' o' _ le rfl k (by rw [List.length_append]; omega))
end Go.X

/- Lemmas and contracts for a statement about the given program. Conditions: as each says. -/
import Derived.Test.YtmmfajokfdaokaaGreatQ10
import Derived.Test.YtmmfajokfdaokaaGreatQ20
set_option linter.unusedVariables false
set_option linter.unusedSimpArgs false
set_option maxHeartbeats 12800000
set_option maxRecDepth 20000
namespace Go.X
open Go.RowKit Go.Bl Go.ChangeShapes Go.WideShapes Go.ChangeAt Go.Joins Go.Proofs
section
variable {H:Type} {enc:TypeId×Value→H} {W:World} {base b0:Nat} {spare:Nat→Bool} {held:Bool} {r:Reach} {v:Value} {d:DataW H} {p:List MemPlace}
set_option maxRecDepth 100000 in
theorem fou_cells (n:Nat) (cs:List Value) (x:DataW H×List MemPlace) (hf:DataW.trod enc Tryz.prog W base spare held n 105 cs=some x):∃ q:FouD,cs=fouC q∧FouOk q:=by
 obtain ⟨xs,m,rfl,_,hl,fldl,fld⟩:=DataW.trod_struct Tryz.underlying105 hf
 rw [show Tryz.prog.cellsOf 105=2 by kernel_rfl] at hl
 have ki:Tryz.prog.cellsOf 3=1:=by kernel_rfl
 have ku:Tryz.prog.cellsOf 22=1:=by kernel_rfl
 have sfld:∀ i,i<2→(xs[i]?).isSome=true:=fun i hi=>by
  have:xs.length=2:=fldl
  simp; omega
 obtain ⟨z0,a0,r0⟩:=icell (off:=0) Tryz.underlying3 ki (fld 0 _ rfl) (sfld 0 (by decide))
 obtain ⟨z1,a1,r1⟩:=icell (off:=1) Tryz.underlying22 ku (fld 1 _ rfl) (sfld 1 (by decide))
 obtain ⟨g0,cs,rfl⟩:=List.exists_cons_of_length_eq_add_one hl
 obtain ⟨g1,cs,rfl⟩:=List.exists_cons_of_length_eq_add_one (show cs.length=0+1 by simpa using hl)
 obtain rfl:cs=[]:=List.eq_nil_of_length_eq_zero (by simpa using hl)
 simp only [List.getElem?_cons_zero,List.getElem?_cons_succ,Option.some.injEq] at a0 a1
 subst a0
 subst a1
 rw [i64min,i64max] at r0
 rw [u64min,u64max] at r1
 exact ⟨⟨z0,z1⟩,rfl,⟨r0,r1⟩⟩
set_option maxRecDepth 100000 in
theorem gen_cells (n:Nat) (cs:List Value) (x:DataW H×List MemPlace) (hf:DataW.trod enc Tryz.prog W base spare held n 28 cs=some x):∃ (pv fv:Value) (g:GenD),cs=genC g pv fv∧IsGen (wh W) pv fv g:=by
 obtain ⟨xs,m,rfl,_,hl,fldl,fld⟩:=DataW.trod_struct Tryz.underlying28 hf
 rw [show Tryz.prog.cellsOf 28=27 by kernel_rfl] at hl
 have ku:Tryz.prog.cellsOf 22=1:=by kernel_rfl
 have sfld:∀ i,i<4→(xs[i]?).isSome=true:=fun i hi=>by
  have:xs.length=4:=fldl
  simp; omega
 have hp:DataW.trod enc Tryz.prog W base spare held m 24 ((cs.drop 0).take (Tryz.prog.cellsOf 24))=xs[0]?:=fld 0 _ rfl
 rw [show Tryz.prog.cellsOf 24=24 by kernel_rfl] at hp
 obtain ⟨y0,hy0⟩:=Option.isSome_iff_exists.1 (sfld 0 (by decide))
 rw [hy0] at hp
 obtain ⟨q,hq,qok⟩:=par_cells _ _ _ hp
 obtain ⟨z1,a1,r1⟩:=icell (off:=24) Tryz.underlying22 ku (fld 1 _ rfl) (sfld 1 (by decide))
 obtain ⟨_,f0⟩:=scell (off:=25) (by omega) (by kernel_rfl) (fld 2 _ rfl) (sfld 2 (by decide))
 obtain ⟨_,f1⟩:=scell (off:=26) (by omega) (by kernel_rfl) (fld 3 _ rfl) (sfld 3 (by decide))
 obtain ⟨s0,w0⟩:=ints_world (k:=.u64) Tryz.underlying25 Tryz.underlying22 (by kernel_rfl) f0
 obtain ⟨s1,w1,o1⟩:=recs_world zeroFou Tryz.underlying26 (by kernel_rfl) fouC_len (by decide) fou_cells f1
 rw [u64min,u64max] at r1
 refine ⟨cs[25],cs[26],⟨q,z1,s0,s1⟩,?_,⟨qok,r1,w0,w1,o1⟩⟩
 rw [List.drop_zero] at hq
 have e1:cs=cs.take 24++cs.drop 24:=(List.take_append_drop 24 cs).symm
 have e2:cs.drop 24=[.int .u64 z1,cs[25],cs[26]]:=by
  rw [List.drop_eq_getElem_cons (by omega),List.drop_eq_getElem_cons (by omega),List.drop_eq_getElem_cons (by omega),List.drop_eq_nil_of_le (by omega)]
  have:cs[24] = .int .u64 z1:=by
   rw [List.getElem?_eq_getElem (by omega)] at a1
   exact Option.some.inj a1
  rw [this]
 have e3:cs.take 24++cs.drop 24=parC q++[.int .u64 z1,cs[25],cs[26]]:=congr (congrArg (· ++ ·) hq) e2
 exact e1.trans (e3.trans rfl)
set_option maxRecDepth 100000 in
theorem gen_world (hv:Value.okWide Tryz.prog W r b0 28 v) (h:DataW.Trod enc Tryz.prog W base spare held 28 v d p):∃ q:(Value×Value)×GenD,v=genV q.2 q.1.1 q.1.2∧IsGen (wh W) q.1.1 q.1.2 q.2:=by
 obtain ⟨cs,rfl,_⟩:=okWide_struct Tryz.underlying28 hv
 obtain ⟨f,hf⟩:=h
 obtain ⟨pv,fv,g,hc,hd⟩:=gen_cells _ _ _ hf
 refine ⟨((pv,fv),g),?_,hd⟩
 have:cs=(genC g pv fv).toArray:=by
  apply Array.ext'
  simpa [Value.cells] using hc
 rw [this]
end
end Go.X

/- Lemmas and contracts. Conditions: as each says. -/
import Derived.Test.YtmmfajokfdaokaaGreatQ13
set_option linter.unusedVariables false
set_option linter.unusedSimpArgs false
set_option maxHeartbeats 12800000
set_option maxRecDepth 20000
namespace Go.X
open Go.RowKit Go.Bl Go.ChangeShapes Go.WideShapes Go.ChangeAt Go.Joins Go.Proofs Go.Proofs.Tryz
section
variable {P:Program} {H:Type} {enc:TypeId×Value→H} {W:World} {base b0:Nat} {spare:Nat→Bool} {held:Bool} {r:Reach} {v:Value} {d:DataW H} {p:List MemPlace}
theorem VG {n t off:Nat}{k:IntKind}{cs:List Value}{y:Option (DataW H×List MemPlace)}(ht:P.underlying t=some (.int k))(hc:P.cellsOf t=1)(h:DataW.trod enc P W base spare held n t ((cs.drop off).take (P.cellsOf t))=y)(hy:y.isSome=true) :
  ∃z,cs[off]?=some (.int k z)∧k.min≤z∧z≤k.max:=by
 obtain⟨x,rfl⟩:=Option.isSome_iff_exists.1 hy;obtain⟨z,hz,_,w⟩:=DataW.trod_int ht h;rw[hc]at hz;have hr:k.min≤z∧z≤k.max:=by simpa [Lit.wf] using w
 refine⟨z,?_,hr⟩;have:=congrArg (fun l=>l[0]?) hz
 simpa using this
theorem Yvc {n t off:Nat}{cs:List Value}{y:Option (DataW H×List MemPlace)}(hs:off<cs.length)(hc:P.cellsOf t=1)(h:DataW.trod enc P W base spare held n t ((cs.drop off).take (P.cellsOf t))=y)(hy:y.isSome=true) :
  ∃x,DataW.trod enc P W base spare held n t [cs[off]]=some x:=by
 obtain⟨x,rfl⟩:=Option.isSome_iff_exists.1 hy;rw[hc]at h;have e1:(cs.drop off).take 1=[cs[off]]:=by rw[List.drop_eq_getElem_cons hs];rfl
 rw[e1]at h;exact⟨x,h⟩
theorem Zun {α:Type}{f:α→List Value}{w:Nat}(z:α){t e n:Nat}{Q:α→Prop}{x:DataW H×List MemPlace}(ht:P.underlying t=some (.slice e))(hc:P.cellsOf e=w)(hw:∀a,(f a).length=w)(h0w:0<w)
  (one:∀(n:Nat) (cs:List Value) (x:DataW H×List MemPlace),DataW.trod enc P W base spare held n e cs=some x→∃a,cs=f a∧Q a) (h:DataW.trod enc P W base spare held n t [v]=some x):∃l,Zh f w (wh W) v l∧∀a∈l,Q a:=by
 rcases DataW.trod_slice ht h with⟨h0,_⟩ | ⟨a,len,cap,elems,rest,n',_,hcs,_,hb,hl,hm,hlen,hel,_,_⟩
 ·injection h0 with h0
  rw[h0];exact⟨[],Zh.nil hw _,fun a ha=>by cases ha⟩
 injection hcs with hcs
 rw[hcs];rw[hc]at hel;have one':∀i,i<len→∃q:α,(∀m,m<w→W.cell? (a.add (i*w+m))=(f q)[m]?)∧Q q:=by
  intro i hi;have:=hel i hi;rw[List.getElem?_eq_getElem (by omega)]at this;obtain⟨cs,h1,h2⟩:=Option.bind_eq_some_iff.1 this;obtain⟨q,rfl,hq⟩:=one _ _ _ h2;refine⟨q,fun m hm=>?_,hq⟩;have:=(World.cells?_some h1).2.2 m hm;rw[Zei]at this;exact this
 obtain⟨g,hg⟩:∃g:Nat→α,∀i,i<len→(∀m,m<w→W.cell? (a.add (i*w+m))=(f (g i))[m]?)∧Q (g i):=by
  refine⟨fun i=>if hi:i<len then (one' i hi).choose else z,fun i hi=>?_⟩;simp only[hi,dif_pos];exact(one' i hi).choose_spec
 have hm':cap≤9223372036854775807:=by simpa [maxLen] using hm
 have hlr:((List.range len).map g).length=len:=by simp
 refine⟨(List.range len).map g,⟨hw,⟨by rw[Z3 hw],some a,cap,by rw[hlr],by omega,hm',by omega,(fun h=>by cases h),fun j c hj=>?_⟩⟩,fun q hq=>?_⟩
 ·have hjl:j<((List.range len).map g).length*w:=by
   have:=(List.getElem?_eq_some_iff.1 hj).1
   rwa [Z3 hw]at this
  rw[hlr]at hjl;have hd:j=j/w*w+j%w:=by have:=Nat.div_add_mod j w;rw[Nat.mul_comm]at this;omega
  have hi:j/w<len:=(Nat.div_lt_iff_lt_mul h0w).2 hjl;have hmw:j%w<w:=Nat.mod_lt _ h0w;have h2:=UW hw ((List.range len).map g) (j/w) (j%w) hmw;rw[← hd]at h2;have h3:=(hg (j/w) hi).1 (j%w) hmw;rw[← hd]at h3;refine J7 (h3.trans ?_);have h4:((List.range len).map g)[j/w]?=some (g (j/w)):=by simp [hi]
  rw[h4,Option.bind_some]at h2;rw[← h2];exact hj
 ·obtain⟨i,hi,rfl⟩:=List.mem_map.1 hq;exact(hg i (List.mem_range.1 hi)).2
theorem Yrc {cs:List Value}(h:cs.length=24):∃g0 g1 g2 g3 g4 g5 g6 g7 g8 g9 g10 g11 g12 g13 g14 g15 g16 g17 g18 g19 g20 g21 g22 g23:Value,cs=g0::g1::g2::g3::g4::g5::g6::g7::g8::g9::g10::g11::g12::g13::g14::g15::g16::g17::g18::g19::g20::g21::g22::g23::[]:=by
 match cs,h with
 | g0::g1::g2::g3::g4::g5::g6::g7::g8::g9::g10::g11::g12::g13::g14::g15::g16::g17::g18::g19::g20::g21::g22::g23::[],_=>exact⟨g0,g1,g2,g3,g4,g5,g6,g7,g8,g9,g10,g11,g12,g13,g14,g15,g16,g17,g18,g19,g20,g21,g22,g23,rfl⟩
end
section
variable {H:Type} {enc:TypeId×Value→H} {W:World} {base b0:Nat} {spare:Nat→Bool} {held:Bool} {r:Reach} {v:Value} {d:DataW H} {p:List MemPlace}
theorem Ykw:IntKind.i64.min = -9223372036854775808:=by decide
theorem Ykn:IntKind.i64.max=9223372036854775807:=by decide
theorem Ycn:IntKind.u64.min=0:=by decide
theorem Zyi:IntKind.u64.max=18446744073709551615:=by decide
set_option maxRecDepth 100000 in
theorem Ycy (n:Nat)(cs:List Value)(x:DataW H×List MemPlace)(hf:DataW.trod enc prog W base spare held n 24 cs=some x):∃q:Ze,cs=Jb q∧Zj q:=by
 obtain⟨xs,m,rfl,_,hl,fldl,fld⟩:=DataW.trod_struct underlying24 hf;rw[show prog.cellsOf 24=24 by kernel_rfl]at hl;have ki:prog.cellsOf 3=1:=by kernel_rfl
 have ku:prog.cellsOf 22=1:=by kernel_rfl
 have sfld:∀i,i<24→(xs[i]?).isSome=true:=fun i hi=>by
  have:xs.length=24:=fldl;simp;omega
 obtain⟨z0,a0,r0⟩:=VG (off:=0) underlying22 ku (fld 0 _ rfl) (sfld 0 (by decide));obtain⟨z1,a1,r1⟩:=VG (off:=1) underlying22 ku (fld 1 _ rfl) (sfld 1 (by decide));obtain⟨z2,a2,r2⟩:=VG (off:=2) underlying22 ku (fld 2 _ rfl) (sfld 2 (by decide));obtain⟨z3,a3,r3⟩:=VG (off:=3) underlying22 ku (fld 3 _ rfl) (sfld 3 (by decide));obtain⟨z4,a4,r4⟩:=VG (off:=4) underlying22 ku (fld 4 _ rfl) (sfld 4 (by decide));obtain⟨z5,a5,r5⟩:=VG (off:=5) underlying22 ku (fld 5 _ rfl) (sfld 5 (by decide));obtain⟨z6,a6,r6⟩:=VG (off:=6) underlying22 ku (fld 6 _ rfl) (sfld 6 (by decide));obtain⟨z7,a7,r7⟩:=VG (off:=7) underlying22 ku (fld 7 _ rfl) (sfld 7 (by decide));obtain⟨z8,a8,r8⟩:=VG (off:=8) underlying22 ku (fld 8 _ rfl) (sfld 8 (by decide));obtain⟨z9,a9,r9⟩:=VG (off:=9) underlying22 ku (fld 9 _ rfl) (sfld 9 (by decide));obtain⟨z10,a10,r10⟩:=VG (off:=10) underlying22 ku (fld 10 _ rfl) (sfld 10 (by decide));obtain⟨z11,a11,r11⟩:=VG (off:=11) underlying22 ku (fld 11 _ rfl) (sfld 11 (by decide));obtain⟨z12,a12,r12⟩:=VG (off:=12) underlying22 ku (fld 12 _ rfl) (sfld 12 (by decide));obtain⟨z13,a13,r13⟩:=VG (off:=13) underlying22 ku (fld 13 _ rfl) (sfld 13 (by decide));obtain⟨z14,a14,r14⟩:=VG (off:=14) underlying3 ki (fld 14 _ rfl) (sfld 14 (by decide));obtain⟨z15,a15,r15⟩:=VG (off:=15) underlying3 ki (fld 15 _ rfl) (sfld 15 (by decide));obtain⟨z16,a16,r16⟩:=VG (off:=16) underlying3 ki (fld 16 _ rfl) (sfld 16 (by decide));obtain⟨z17,a17,r17⟩:=VG (off:=17) underlying3 ki (fld 17 _ rfl) (sfld 17 (by decide));obtain⟨z18,a18,r18⟩:=VG (off:=18) underlying3 ki (fld 18 _ rfl) (sfld 18 (by decide));obtain⟨z19,a19,r19⟩:=VG (off:=19) underlying3 ki (fld 19 _ rfl) (sfld 19 (by decide));obtain⟨z20,a20,r20⟩:=VG (off:=20) underlying3 ki (fld 20 _ rfl) (sfld 20 (by decide))
 obtain⟨z21,a21,r21⟩:=VG (off:=21) underlying3 ki (fld 21 _ rfl) (sfld 21 (by decide));obtain⟨z22,a22,r22⟩:=VG (off:=22) underlying3 ki (fld 22 _ rfl) (sfld 22 (by decide));obtain⟨z23,a23,r23⟩:=VG (off:=23) underlying3 ki (fld 23 _ rfl) (sfld 23 (by decide));obtain⟨g0,g1,g2,g3,g4,g5,g6,g7,g8,g9,g10,g11,g12,g13,g14,g15,g16,g17,g18,g19,g20,g21,g22,g23,rfl⟩:=Yrc hl;simp only[List.drop_succ_cons,List.drop_zero,List.take_succ_cons,List.take_zero,List.getElem?_cons_zero,List.getElem?_cons_succ,List.getElem_cons_succ,List.getElem_cons_zero,Option.some.injEq]at a0 a1 a2 a3 a4 a5 a6 a7 a8 a9 a10 a11 a12 a13 a14 a15 a16 a17 a18 a19 a20 a21 a22 a23;subst a0;subst a1;subst a2;subst a3;subst a4;subst a5;subst a6;subst a7;subst a8;subst a9;subst a10;subst a11;subst a12;subst a13;subst a14;subst a15;subst a16;subst a17;subst a18;subst a19;subst a20;subst a21;subst a22;subst a23;rw[Ykw,Ykn]at r14 r15 r16 r17 r18 r19 r20 r21 r22 r23;rw[Ycn,Zyi]at r0 r1 r2 r3 r4 r5 r6 r7 r8 r9 r10 r11 r12 r13;refine⟨⟨z0,z1,z2,z3,z4,z5,z6,z7,z8,z9,z10,z11,z12,z13,z14,z15,z16,z17,z18,z19,z20,z21,z22,z23⟩,rfl,⟨?_,?_⟩⟩
 ·intro z hz;simp only[Yw,Yk,List.mem_cons,List.not_mem_nil,or_false]at hz;rcases hz with rfl|rfl|rfl|rfl|rfl|rfl|rfl|rfl|rfl|rfl|rfl|rfl|rfl|rfl
  ·exact r0
  ·exact r1
  ·exact r2
  ·exact r3
  ·exact r4
  ·exact r5
  ·exact r6
  ·exact r7
  ·exact r8
  ·exact r9
  ·exact r10
  ·exact r11
  ·exact r12
  ·exact r13
 ·intro z hz;simp only[Yw,Yk,List.mem_cons,List.not_mem_nil,or_false]at hz;rcases hz with rfl|rfl|rfl|rfl|rfl|rfl|rfl|rfl|rfl|rfl
  ·exact r14
  ·exact r15
  ·exact r16
  ·exact r17
  ·exact r18
  ·exact r19
  ·exact r20
  ·exact r21
  ·exact r22
  ·exact r23
end
open Go.RowKit Go.Bl Go.ChangeShapes Go.WideShapes Go.ChangeAt Go.Joins Go.Proofs Go.Proofs.Tryz
abbrev Zwa:=Int×Value×List QD
def Zfj (a:Zwa):List Value:=[.int .i64 a.1,a.2.1]
def Ub:Zwa:=(0,.slice none 0 0,[])
theorem JO (a:Zwa):(Zfj a).length=2:=rfl
structure Wjw (h:PH)(v:Value)(l:List Zwa):Prop where
 r:Zh Zfj 2 h v l
 d:∀a∈l,Zr h a.2.1 a.2.2
 k:∀a∈l,-9223372036854775808≤a.1∧a.1≤9223372036854775807
theorem Wjw.up {h h':PH}(le:PH.le h h'){v:Value}{l:List Zwa}(hs:Wjw h v l):Wjw h' v l:=⟨hs.r.up le,fun a ha=>(hs.d a ha).up le,hs.k⟩
section
variable {H:Type} {enc:TypeId×Value→H} {W:World} {base b0:Nat} {spare:Nat→Bool} {held:Bool} {r:Reach} {v:Value} {d:DataW H} {p:List MemPlace}
set_option maxRecDepth 100000 in
theorem Zsx {f:Nat}{u:Value}{x:DataW H×List MemPlace}(hf:DataW.trod enc prog W base spare held f 93 [u]=some x):∃l,Zr (wh W) u l:=by
 obtain⟨d,p⟩:=x;rcases DataW.trod_slice underlying93 hf with⟨h0,_⟩ | ⟨a,len,cap,elems,rest,n,_,hcs,_,hb,hl,hm,hlen,hel,_,_⟩
 ·injection h0 with h0
  rw[h0];exact⟨[],Zr.nil _⟩
 injection hcs with hcs
 rw[hcs];rw[show prog.cellsOf 177=34 by kernel_rfl]at hel;have one:∀i,i<len→∃q:QD,(∀m,m<34→W.cell? (a.add (i*34+m))=(qC q)[m]?)∧Zl (wh W) q.1 q.2:=by
  intro i hi;have:=hel i hi;rw[List.getElem?_eq_getElem (by omega)]at this;obtain⟨cs,h1,h2⟩:=Option.bind_eq_some_iff.1 this;obtain⟨bv,dd,rfl,hd⟩:=Zvt h2;refine⟨(bv,dd),fun m hm=>?_,hd⟩;have:=(World.cells?_some h1).2.2 m hm;rw[Zei]at this;exact this
 obtain⟨g,hg⟩:∃g:Nat→QD,∀i,i<len→(∀m,m<34→W.cell? (a.add (i*34+m))=(qC (g i))[m]?)∧Zl (wh W) (g i).1 (g i).2:=by
  refine⟨fun i=>if hi:i<len then (one i hi).choose else zq,fun i hi=>?_⟩;simp only[hi,dif_pos];exact(one i hi).choose_spec
 have hm':cap≤9223372036854775807:=by simpa [maxLen] using hm
 have hlr:((List.range len).map g).length=len:=by simp
 refine⟨(List.range len).map g,⟨V1 _,some a,cap,by rw[hlr],by omega,hm',by omega,(fun h=>by cases h),fun j c hj=>?_⟩,fun q hq=>?_⟩
 ·have hjl:j<((List.range len).map g).length*34:=by
   have:=(List.getElem?_eq_some_iff.1 hj).1
   rwa [V1]at this
  rw[hlr]at hjl;have hd:j=j/34*34+j%34:=by omega
  have hi:j/34<len:=by omega
  have h2:=Zbx Zgd ((List.range len).map g) (j/34) (j%34) (by omega);rw[← hd]at h2;have h3:=(hg (j/34) hi).1 (j%34) (by omega);rw[← hd]at h3;refine J7 (h3.trans ?_);have h4:((List.range len).map g)[j/34]?=some (g (j/34)):=by simp [hi]
  rw[h4,Option.bind_some]at h2;rw[← h2];exact hj
 ·obtain⟨i,hi,rfl⟩:=List.mem_map.1 hq;exact(hg i (List.mem_range.1 hi)).2
set_option maxRecDepth 100000 in
theorem Zyw {n:Nat}{cs:List Value}{x:DataW H×List MemPlace}(hf:DataW.trod enc prog W base spare held n 95 cs=some x):∃a:Zwa,cs=Zfj a∧Zr (wh W) a.2.1 a.2.2 ∧ -9223372036854775808≤a.1∧a.1≤9223372036854775807:=by
 obtain⟨xs,m,rfl,_,hl,hxl,hfield⟩:=DataW.trod_struct underlying95 hf;rw[show prog.cellsOf 95=2 by kernel_rfl]at hl;have sm:∀i,i<2→(xs[i]?).isSome=true:=fun i hi=>by
  have:xs.length=2:=hxl;simp;omega
 have k3:prog.cellsOf 3=1:=by kernel_rfl
 obtain⟨z0,a0,r0⟩:=Yu (off:=0) underlying3 k3 (hfield 0 _ rfl) (sm 0 (by decide));rw[Yae,Zwv]at r0;have h1:DataW.trod enc prog W base spare held m 93 ((cs.drop 1).take (prog.cellsOf 93))=xs[1]?:=hfield 1 _ rfl;rw[show prog.cellsOf 93=1 by kernel_rfl]at h1;obtain⟨y1,hy1⟩:=Option.isSome_iff_exists.1 (sm 1 (by decide));rw[hy1]at h1
 match cs,hl with
 | [g0,g1],_ =>
  obtain⟨l,hd⟩:=Zsx h1;simp only[List.getElem?_cons_zero,Option.some.injEq]at a0;subst a0;exact⟨(z0,g1,l),rfl,hd,r0⟩
set_option maxRecDepth 100000 in
theorem Zvw (hv:Value.okWide prog W r b0 91 v)(h:DataW.Trod enc prog W base spare held 91 v d p):∃l,Wjw (wh W) v l:=by
 obtain⟨f,hf⟩:=h;obtain⟨a0,len0,cap0,rfl⟩:=okWide_slice underlying91 hv;rcases DataW.trod_slice underlying91 hf with⟨h0,_⟩ | ⟨a,len,cap,elems,rest,n,_,hcs,_,hb,hl,hm,hlen,hel,_,_⟩
 ·have h0:([Value.slice a0 len0 cap0]:List Value)=[.slice none 0 0]:=h0;injection h0 with h0
  rw[h0];exact⟨[],Zh.nil JO _,(fun a ha=>by cases ha),fun a ha=>by cases ha⟩
 have hcs:([Value.slice a0 len0 cap0]:List Value)=[.slice (some a) len cap]:=hcs;injection hcs with hcs
 rw[hcs];rw[show prog.cellsOf 95=2 by kernel_rfl]at hel;have one:∀i,i<len→∃q:Zwa,(∀m,m<2→W.cell? (a.add (i*2+m))=(Zfj q)[m]?)∧Zr (wh W) q.2.1 q.2.2 ∧ -9223372036854775808≤q.1∧q.1≤9223372036854775807:=by
  intro i hi;have:=hel i hi;rw[List.getElem?_eq_getElem (by omega)]at this;obtain⟨cs,h1,h2⟩:=Option.bind_eq_some_iff.1 this;obtain⟨q,rfl,hd⟩:=Zyw h2;refine⟨q,fun m hm=>?_,hd⟩;have:=(World.cells?_some h1).2.2 m hm;rw[Zei]at this;exact this
 obtain⟨g,hg⟩:∃g:Nat→Zwa,∀i,i<len→(∀m,m<2→W.cell? (a.add (i*2+m))=(Zfj (g i))[m]?)∧Zr (wh W) (g i).2.1 (g i).2.2 ∧ -9223372036854775808≤(g i).1∧(g i).1≤9223372036854775807:=by
  refine⟨fun i=>if hi:i<len then (one i hi).choose else Ub,fun i hi=>?_⟩;simp only[hi,dif_pos];exact(one i hi).choose_spec
 have hm':cap≤9223372036854775807:=by simpa [maxLen] using hm
 have hlr:((List.range len).map g).length=len:=by simp
 refine⟨(List.range len).map g,⟨JO,Z3 JO _,some a,cap,by rw[hlr],by omega,hm',by omega,(fun h=>by cases h),fun j c hj=>?_⟩,fun q hq=>?_,fun q hq=>?_⟩
 ·have hjl:j<((List.range len).map g).length*2:=by
   have:=(List.getElem?_eq_some_iff.1 hj).1
   rwa [Z3 JO]at this
  rw[hlr]at hjl;have hd:j=j/2*2+j%2:=by omega
  have hi:j/2<len:=by omega
  have h2:=Zbx JO ((List.range len).map g) (j/2) (j%2) (by omega);rw[← hd]at h2;have h3:=(hg (j/2) hi).1 (j%2) (by omega);rw[← hd]at h3;refine J7 (h3.trans ?_);have h4:((List.range len).map g)[j/2]?=some (g (j/2)):=by simp [hi]
  rw[h4,Option.bind_some]at h2;rw[← h2];exact hj
 ·obtain⟨i,hi,rfl⟩:=List.mem_map.1 hq;exact(hg i (List.mem_range.1 hi)).2.1
 ·obtain⟨i,hi,rfl⟩:=List.mem_map.1 hq;exact(hg i (List.mem_range.1 hi)).2.2
end
end Go.X

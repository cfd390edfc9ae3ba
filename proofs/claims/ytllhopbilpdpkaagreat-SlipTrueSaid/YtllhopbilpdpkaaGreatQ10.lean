/- Lemmas and contracts. Conditions: as each says. -/
import Derived.Test.YtllhopbilpdpkaaGreatQ08
import Derived.Test.YtllhopbilpdpkaaGreatQ09
set_option linter.unusedVariables false
set_option linter.unusedSimpArgs false
set_option maxHeartbeats 12800000
set_option maxRecDepth 20000
namespace Go.X
open Go.RowKit Go.Bl Go.ChangeShapes Go.WideShapes Go.ChangeAt Go.Joins Go.Proofs Go.Proofs.Tryz
section
variable {P:Program} {H:Type} {enc:TypeId×Value→H} {W:World} {base b0:Nat} {spare:Nat→Bool} {held:Bool} {r:Reach} {v:Value} {d:DataW H} {p:List MemPlace}
theorem YV {n t off:Nat}{k:IntKind}{cs:List Value}{y:Option (DataW H×List MemPlace)}(ht:P.underlying t=some (.int k))(hc:P.cellsOf t=1)(h:DataW.trod enc P W base spare held n t ((cs.drop off).take (P.cellsOf t))=y)(hy:y.isSome=true) :
  ∃z,cs[off]?=some (.int k z)∧k.min≤z∧z≤k.max:=by
 obtain⟨x,rfl⟩:=Option.isSome_iff_exists.1 hy;obtain⟨z,hz,_,w⟩:=DataW.trod_int ht h;rw[hc]at hz;have hr:k.min≤z∧z≤k.max:=by simpa [Lit.wf] using w
 refine⟨z,?_,hr⟩;have:=congrArg (fun l=>l[0]?) hz
 simpa using this
theorem Ytb {n t off:Nat}{cs:List Value}{y:Option (DataW H×List MemPlace)}(ht:P.underlying t=some .bool)(hc:P.cellsOf t=1)(h:DataW.trod enc P W base spare held n t ((cs.drop off).take (P.cellsOf t))=y)(hy:y.isSome=true) :
  ∃z:Bool,cs[off]?=some (.bool z):=by
 obtain⟨x,rfl⟩:=Option.isSome_iff_exists.1 hy;obtain⟨z,hz,_⟩:=DataW.trod_bool ht h;rw[hc]at hz;refine⟨z,?_⟩;have:=congrArg (fun l=>l[0]?) hz
 simpa using this
theorem Zbb {n t off:Nat}{cs:List Value}{y:Option (DataW H×List MemPlace)}(hs:off<cs.length)(hc:P.cellsOf t=1)(h:DataW.trod enc P W base spare held n t ((cs.drop off).take (P.cellsOf t))=y)(hy:y.isSome=true) :
  ∃x,DataW.trod enc P W base spare held n t [cs[off]]=some x:=by
 obtain⟨x,rfl⟩:=Option.isSome_iff_exists.1 hy;rw[hc]at h;have e1:(cs.drop off).take 1=[cs[off]]:=by rw[List.drop_eq_getElem_cons hs];rfl
 rw[e1]at h;exact⟨x,h⟩
theorem VU {α:Type}{f:α→List Value}{w:Nat}(z:α){t e n:Nat}{Q:α→Prop}{x:DataW H×List MemPlace}(ht:P.underlying t=some (.slice e))(hc:P.cellsOf e=w)(hw:∀a,(f a).length=w)(h0w:0<w)
  (one:∀(n:Nat) (cs:List Value) (x:DataW H×List MemPlace),DataW.trod enc P W base spare held n e cs=some x→∃a,cs=f a∧Q a) (h:DataW.trod enc P W base spare held n t [v]=some x):∃l,Zh f w (wh W) v l∧∀a∈l,Q a:=by
 rcases DataW.trod_slice ht h with⟨h0,_⟩ | ⟨a,len,cap,elems,rest,n',_,hcs,_,hb,hl,hm,hlen,hel,_,_⟩
 ·injection h0 with h0
  rw[h0];exact⟨[],Zh.nil hw _,fun a ha=>by cases ha⟩
 injection hcs with hcs
 rw[hcs];rw[hc]at hel;have one':∀i,i<len→∃q:α,(∀m,m<w→W.cell? (a.add (i*w+m))=(f q)[m]?)∧Q q:=by
  intro i hi;have:=hel i hi;rw[List.getElem?_eq_getElem (by omega)]at this;obtain⟨cs,h1,h2⟩:=Option.bind_eq_some_iff.1 this;obtain⟨q,rfl,hq⟩:=one _ _ _ h2;refine⟨q,fun m hm=>?_,hq⟩;have:=(World.cells?_some h1).2.2 m hm;rw[Zin]at this;exact this
 obtain⟨g,hg⟩:∃g:Nat→α,∀i,i<len→(∀m,m<w→W.cell? (a.add (i*w+m))=(f (g i))[m]?)∧Q (g i):=by
  refine⟨fun i=>if hi:i<len then (one' i hi).choose else z,fun i hi=>?_⟩;simp only[hi,dif_pos];exact(one' i hi).choose_spec
 have hm':cap≤9223372036854775807:=by simpa [maxLen] using hm
 have hlr:((List.range len).map g).length=len:=by simp
 refine⟨(List.range len).map g,⟨hw,⟨by rw[Z0 hw],some a,cap,by rw[hlr],by omega,hm',by omega,(fun h=>by cases h),fun j c hj=>?_⟩⟩,fun q hq=>?_⟩
 ·have hjl:j<((List.range len).map g).length*w:=by
   have:=(List.getElem?_eq_some_iff.1 hj).1
   rwa [Z0 hw]at this
  rw[hlr]at hjl;have hd:j=j/w*w+j%w:=by have:=Nat.div_add_mod j w;rw[Nat.mul_comm]at this;omega
  have hi:j/w<len:=(Nat.div_lt_iff_lt_mul h0w).2 hjl;have hmw:j%w<w:=Nat.mod_lt _ h0w;have h2:=VO hw ((List.range len).map g) (j/w) (j%w) hmw;rw[← hd]at h2;have h3:=(hg (j/w) hi).1 (j%w) hmw;rw[← hd]at h3;refine Zcp (h3.trans ?_);have h4:((List.range len).map g)[j/w]?=some (g (j/w)):=by simp [hi]
  rw[h4,Option.bind_some]at h2;rw[← h2];exact hj
 ·obtain⟨i,hi,rfl⟩:=List.mem_map.1 hq;exact(hg i (List.mem_range.1 hi)).2
theorem Yoc {cs:List Value}(h:cs.length=3):∃g0 g1 g2:Value,cs=g0::g1::g2::[]:=by
 match cs,h with
 | g0::g1::g2::[],_=>exact⟨g0,g1,g2,rfl⟩
theorem Ysb {cs:List Value}(h:cs.length=4):∃g0 g1 g2 g3:Value,cs=g0::g1::g2::g3::[]:=by
 match cs,h with
 | g0::g1::g2::g3::[],_=>exact⟨g0,g1,g2,g3,rfl⟩
theorem Ymd {cs:List Value}(h:cs.length=6):∃g0 g1 g2 g3 g4 g5:Value,cs=g0::g1::g2::g3::g4::g5::[]:=by
 match cs,h with
 | g0::g1::g2::g3::g4::g5::[],_=>exact⟨g0,g1,g2,g3,g4,g5,rfl⟩
theorem Yip {cs:List Value}(h:cs.length=24):∃g0 g1 g2 g3 g4 g5 g6 g7 g8 g9 g10 g11 g12 g13 g14 g15 g16 g17 g18 g19 g20 g21 g22 g23:Value,cs=g0::g1::g2::g3::g4::g5::g6::g7::g8::g9::g10::g11::g12::g13::g14::g15::g16::g17::g18::g19::g20::g21::g22::g23::[]:=by
 match cs,h with
 | g0::g1::g2::g3::g4::g5::g6::g7::g8::g9::g10::g11::g12::g13::g14::g15::g16::g17::g18::g19::g20::g21::g22::g23::[],_=>exact⟨g0,g1,g2,g3,g4,g5,g6,g7,g8,g9,g10,g11,g12,g13,g14,g15,g16,g17,g18,g19,g20,g21,g22,g23,rfl⟩
theorem Yht {cs:List Value}(h:cs.length=33):∃g0 g1 g2 g3 g4 g5 g6 g7 g8 g9 g10 g11 g12 g13 g14 g15 g16 g17 g18 g19 g20 g21 g22 g23 g24 g25 g26 g27 g28 g29 g30 g31 g32:Value,cs=g0::g1::g2::g3::g4::g5::g6::g7::g8::g9::g10::g11::g12::g13::g14::g15::g16::g17::g18::g19::g20::g21::g22::g23::g24::g25::g26::g27::g28::g29::g30::g31::g32::[]:=by
 match cs,h with
 | g0::g1::g2::g3::g4::g5::g6::g7::g8::g9::g10::g11::g12::g13::g14::g15::g16::g17::g18::g19::g20::g21::g22::g23::g24::g25::g26::g27::g28::g29::g30::g31::g32::[],_=>exact⟨g0,g1,g2,g3,g4,g5,g6,g7,g8,g9,g10,g11,g12,g13,g14,g15,g16,g17,g18,g19,g20,g21,g22,g23,g24,g25,g26,g27,g28,g29,g30,g31,g32,rfl⟩
theorem Ygx {cs:List Value}(h:cs.length=41):∃g0 g1 g2 g3 g4 g5 g6 g7 g8 g9 g10 g11 g12 g13 g14 g15 g16 g17 g18 g19 g20 g21 g22 g23 g24 g25 g26 g27 g28 g29 g30 g31 g32 g33 g34 g35 g36 g37 g38 g39 g40:Value,cs=g0::g1::g2::g3::g4::g5::g6::g7::g8::g9::g10::g11::g12::g13::g14::g15::g16::g17::g18::g19::g20::g21::g22::g23::g24::g25::g26::g27::g28::g29::g30::g31::g32::g33::g34::g35::g36::g37::g38::g39::g40::[]:=by
 match cs,h with
 | g0::g1::g2::g3::g4::g5::g6::g7::g8::g9::g10::g11::g12::g13::g14::g15::g16::g17::g18::g19::g20::g21::g22::g23::g24::g25::g26::g27::g28::g29::g30::g31::g32::g33::g34::g35::g36::g37::g38::g39::g40::[],_=>exact⟨g0,g1,g2,g3,g4,g5,g6,g7,g8,g9,g10,g11,g12,g13,g14,g15,g16,g17,g18,g19,g20,g21,g22,g23,g24,g25,g26,g27,g28,g29,g30,g31,g32,g33,g34,g35,g36,g37,g38,g39,g40,rfl⟩
end
section
variable {H:Type} {enc:TypeId×Value→H} {W:World} {base b0:Nat} {spare:Nat→Bool} {held:Bool} {r:Reach} {v:Value} {d:DataW H} {p:List MemPlace}
theorem Zcr:IntKind.i64.min = -9223372036854775808:=by decide
theorem Zcv:IntKind.i64.max=9223372036854775807:=by decide
theorem Zcg:IntKind.u64.min=0:=by decide
theorem Zcm:IntKind.u64.max=18446744073709551615:=by decide
set_option maxRecDepth 100000 in
theorem Zgr (n:Nat)(cs:List Value)(x:DataW H×List MemPlace)(hf:DataW.trod enc prog W base spare held n 24 cs=some x):∃q:Ze,cs=Zbs q∧Zj q:=by
 obtain⟨xs,m,rfl,_,hl,fldl,fld⟩:=DataW.trod_struct underlying24 hf;rw[show prog.cellsOf 24=24 by kernel_rfl]at hl;have ki:prog.cellsOf 3=1:=by kernel_rfl
 have ku:prog.cellsOf 22=1:=by kernel_rfl
 have sfld:∀i,i<24→(xs[i]?).isSome=true:=fun i hi=>by
  have:xs.length=24:=fldl;simp;omega
 obtain⟨z0,a0,r0⟩:=YV (off:=0) underlying22 ku (fld 0 _ rfl) (sfld 0 (by decide));obtain⟨z1,a1,r1⟩:=YV (off:=1) underlying22 ku (fld 1 _ rfl) (sfld 1 (by decide));obtain⟨z2,a2,r2⟩:=YV (off:=2) underlying22 ku (fld 2 _ rfl) (sfld 2 (by decide));obtain⟨z3,a3,r3⟩:=YV (off:=3) underlying22 ku (fld 3 _ rfl) (sfld 3 (by decide));obtain⟨z4,a4,r4⟩:=YV (off:=4) underlying22 ku (fld 4 _ rfl) (sfld 4 (by decide));obtain⟨z5,a5,r5⟩:=YV (off:=5) underlying22 ku (fld 5 _ rfl) (sfld 5 (by decide));obtain⟨z6,a6,r6⟩:=YV (off:=6) underlying22 ku (fld 6 _ rfl) (sfld 6 (by decide));obtain⟨z7,a7,r7⟩:=YV (off:=7) underlying22 ku (fld 7 _ rfl) (sfld 7 (by decide));obtain⟨z8,a8,r8⟩:=YV (off:=8) underlying22 ku (fld 8 _ rfl) (sfld 8 (by decide));obtain⟨z9,a9,r9⟩:=YV (off:=9) underlying22 ku (fld 9 _ rfl) (sfld 9 (by decide));obtain⟨z10,a10,r10⟩:=YV (off:=10) underlying22 ku (fld 10 _ rfl) (sfld 10 (by decide));obtain⟨z11,a11,r11⟩:=YV (off:=11) underlying22 ku (fld 11 _ rfl) (sfld 11 (by decide));obtain⟨z12,a12,r12⟩:=YV (off:=12) underlying22 ku (fld 12 _ rfl) (sfld 12 (by decide));obtain⟨z13,a13,r13⟩:=YV (off:=13) underlying22 ku (fld 13 _ rfl) (sfld 13 (by decide));obtain⟨z14,a14,r14⟩:=YV (off:=14) underlying3 ki (fld 14 _ rfl) (sfld 14 (by decide));obtain⟨z15,a15,r15⟩:=YV (off:=15) underlying3 ki (fld 15 _ rfl) (sfld 15 (by decide));obtain⟨z16,a16,r16⟩:=YV (off:=16) underlying3 ki (fld 16 _ rfl) (sfld 16 (by decide));obtain⟨z17,a17,r17⟩:=YV (off:=17) underlying3 ki (fld 17 _ rfl) (sfld 17 (by decide));obtain⟨z18,a18,r18⟩:=YV (off:=18) underlying3 ki (fld 18 _ rfl) (sfld 18 (by decide));obtain⟨z19,a19,r19⟩:=YV (off:=19) underlying3 ki (fld 19 _ rfl) (sfld 19 (by decide));obtain⟨z20,a20,r20⟩:=YV (off:=20) underlying3 ki (fld 20 _ rfl) (sfld 20 (by decide))
 obtain⟨z21,a21,r21⟩:=YV (off:=21) underlying3 ki (fld 21 _ rfl) (sfld 21 (by decide));obtain⟨z22,a22,r22⟩:=YV (off:=22) underlying3 ki (fld 22 _ rfl) (sfld 22 (by decide));obtain⟨z23,a23,r23⟩:=YV (off:=23) underlying3 ki (fld 23 _ rfl) (sfld 23 (by decide));obtain⟨g0,g1,g2,g3,g4,g5,g6,g7,g8,g9,g10,g11,g12,g13,g14,g15,g16,g17,g18,g19,g20,g21,g22,g23,rfl⟩:=Yip hl;simp only[List.drop_succ_cons,List.drop_zero,List.take_succ_cons,List.take_zero,List.getElem?_cons_zero,List.getElem?_cons_succ,List.getElem_cons_succ,List.getElem_cons_zero,Option.some.injEq]at a0 a1 a2 a3 a4 a5 a6 a7 a8 a9 a10 a11 a12 a13 a14 a15 a16 a17 a18 a19 a20 a21 a22 a23;subst a0;subst a1;subst a2;subst a3;subst a4;subst a5;subst a6;subst a7;subst a8;subst a9;subst a10;subst a11;subst a12;subst a13;subst a14;subst a15;subst a16;subst a17;subst a18;subst a19;subst a20;subst a21;subst a22;subst a23;rw[Zcr,Zcv]at r14 r15 r16 r17 r18 r19 r20 r21 r22 r23;rw[Zcg,Zcm]at r0 r1 r2 r3 r4 r5 r6 r7 r8 r9 r10 r11 r12 r13;refine⟨⟨z0,z1,z2,z3,z4,z5,z6,z7,z8,z9,z10,z11,z12,z13,z14,z15,z16,z17,z18,z19,z20,z21,z22,z23⟩,rfl,⟨?_,?_⟩⟩
 ·intro z hz;simp only[YN,YS,List.mem_cons,List.not_mem_nil,or_false]at hz;rcases hz with rfl|rfl|rfl|rfl|rfl|rfl|rfl|rfl|rfl|rfl|rfl|rfl|rfl|rfl
  ·exact r0
  ·exact r1
  ·exact r2
  ·exact r3
  ·exact r4
  ·exact r5
  ·exact r6
  ·exact r7
  ·exact r8
  ·exact r9
  ·exact r10
  ·exact r11
  ·exact r12
  ·exact r13
 ·intro z hz;simp only[YN,YS,List.mem_cons,List.not_mem_nil,or_false]at hz;rcases hz with rfl|rfl|rfl|rfl|rfl|rfl|rfl|rfl|rfl|rfl
  ·exact r14
  ·exact r15
  ·exact r16
  ·exact r17
  ·exact r18
  ·exact r19
  ·exact r20
  ·exact r21
  ·exact r22
  ·exact r23
set_option maxRecDepth 100000 in
theorem Zst (n:Nat)(cs:List Value)(x:DataW H×List MemPlace)(hf:DataW.trod enc prog W base spare held n 74 cs=some x):∃q:Zb,cs=Yv q∧Zf q:=by
 obtain⟨xs,m,rfl,_,hl,fldl,fld⟩:=DataW.trod_struct underlying74 hf;rw[show prog.cellsOf 74=6 by kernel_rfl]at hl;have ki:prog.cellsOf 3=1:=by kernel_rfl
 have ku:prog.cellsOf 22=1:=by kernel_rfl
 have sfld:∀i,i<3→(xs[i]?).isSome=true:=fun i hi=>by
  have:xs.length=3:=fldl;simp;omega
 have hp:DataW.trod enc prog W base spare held m 72 ((cs.drop 0).take (prog.cellsOf 72))=xs[0]?:=fld 0 _ rfl;rw[show prog.cellsOf 72=4 by kernel_rfl]at hp;obtain⟨y0,hy0⟩:=Option.isSome_iff_exists.1 (sfld 0 (by decide));rw[hy0]at hp;obtain⟨ys,m2,_,_,hl2,sub_l,sub_⟩:=DataW.trod_struct underlying72 hp;have ssub_:∀i,i<4→(ys[i]?).isSome=true:=fun i hi=>by
  have:ys.length=4:=sub_l;simp;omega
 obtain⟨z0,a0,r0⟩:=YV (off:=0) underlying22 ku (sub_ 0 _ rfl) (ssub_ 0 (by decide));obtain⟨z1,a1,r1⟩:=YV (off:=1) underlying22 ku (sub_ 1 _ rfl) (ssub_ 1 (by decide));obtain⟨z2,a2,r2⟩:=YV (off:=2) underlying22 ku (sub_ 2 _ rfl) (ssub_ 2 (by decide));obtain⟨z3,a3,r3⟩:=YV (off:=3) underlying3 ki (sub_ 3 _ rfl) (ssub_ 3 (by decide));obtain⟨z4,a4,r4⟩:=YV (off:=4) underlying3 ki (fld 1 _ rfl) (sfld 1 (by decide));obtain⟨z5,a5,r5⟩:=YV (off:=5) underlying3 ki (fld 2 _ rfl) (sfld 2 (by decide));obtain⟨g0,g1,g2,g3,g4,g5,rfl⟩:=Ymd hl;simp only[List.drop_succ_cons,List.drop_zero,List.take_succ_cons,List.take_zero,List.getElem?_cons_zero,List.getElem?_cons_succ,List.getElem_cons_succ,List.getElem_cons_zero,Option.some.injEq]at a0 a1 a2 a3 a4 a5;subst a0;subst a1;subst a2;subst a3;subst a4;subst a5;rw[Zcr,Zcv]at r3 r4 r5;rw[Zcg,Zcm]at r0 r1 r2;refine⟨⟨z0,z1,z2,z3,z4,z5⟩,rfl,⟨?_,?_⟩⟩
 ·intro z hz;simp only[YN,YS,List.mem_cons,List.not_mem_nil,or_false]at hz;rcases hz with rfl|rfl|rfl
  ·exact r0
  ·exact r1
  ·exact r2
 ·intro z hz;simp only[YN,YS,List.mem_cons,List.not_mem_nil,or_false]at hz;rcases hz with rfl|rfl|rfl
  ·exact r3
  ·exact r4
  ·exact r5
set_option maxRecDepth 100000 in
theorem Zvw (n:Nat)(cs:List Value)(x:DataW H×List MemPlace)(hf:DataW.trod enc prog W base spare held n 164 cs=some x):∃q:Zo,cs=Zaf q∧ZL q:=by
 obtain⟨xs,m,rfl,_,hl,fldl,fld⟩:=DataW.trod_struct underlying164 hf;rw[show prog.cellsOf 164=4 by kernel_rfl]at hl;have ki:prog.cellsOf 3=1:=by kernel_rfl
 have ku:prog.cellsOf 22=1:=by kernel_rfl
 have sfld:∀i,i<4→(xs[i]?).isSome=true:=fun i hi=>by
  have:xs.length=4:=fldl;simp;omega
 obtain⟨z0,a0,r0⟩:=YV (off:=0) underlying3 ki (fld 0 _ rfl) (sfld 0 (by decide));obtain⟨z1,a1,r1⟩:=YV (off:=1) underlying3 ki (fld 1 _ rfl) (sfld 1 (by decide));obtain⟨z2,a2,r2⟩:=YV (off:=2) underlying22 ku (fld 2 _ rfl) (sfld 2 (by decide));obtain⟨z3,a3⟩:=Ytb (off:=3) underlying4 (by kernel_rfl) (fld 3 _ rfl) (sfld 3 (by decide));obtain⟨g0,g1,g2,g3,rfl⟩:=Ysb hl;simp only[List.drop_succ_cons,List.drop_zero,List.take_succ_cons,List.take_zero,List.getElem?_cons_zero,List.getElem?_cons_succ,List.getElem_cons_succ,List.getElem_cons_zero,Option.some.injEq]at a0 a1 a2 a3;subst a0;subst a1;subst a2;subst a3;rw[Zcr,Zcv]at r0 r1;rw[Zcg,Zcm]at r2;refine⟨⟨z0,z1,z2,z3⟩,rfl,⟨r2,?_⟩⟩
 ·intro z hz;simp only[YN,YS,List.mem_cons,List.not_mem_nil,or_false]at hz;rcases hz with rfl|rfl
  ·exact r0
  ·exact r1
set_option maxRecDepth 100000 in
theorem Zts (n:Nat)(cs:List Value)(x:DataW H×List MemPlace)(hf:DataW.trod enc prog W base spare held n 167 cs=some x):∃q:Zg,cs=Yz q∧Zs q:=by
 obtain⟨xs,m,rfl,_,hl,fldl,fld⟩:=DataW.trod_struct underlying167 hf;rw[show prog.cellsOf 167=3 by kernel_rfl]at hl;have ki:prog.cellsOf 3=1:=by kernel_rfl
 have ku:prog.cellsOf 22=1:=by kernel_rfl
 have sfld:∀i,i<3→(xs[i]?).isSome=true:=fun i hi=>by
  have:xs.length=3:=fldl;simp;omega
 obtain⟨z0,a0,r0⟩:=YV (off:=0) underlying3 ki (fld 0 _ rfl) (sfld 0 (by decide));obtain⟨z1,a1,r1⟩:=YV (off:=1) underlying3 ki (fld 1 _ rfl) (sfld 1 (by decide));obtain⟨z2,a2,r2⟩:=YV (off:=2) underlying22 ku (fld 2 _ rfl) (sfld 2 (by decide));obtain⟨g0,g1,g2,rfl⟩:=Yoc hl;simp only[List.drop_succ_cons,List.drop_zero,List.take_succ_cons,List.take_zero,List.getElem?_cons_zero,List.getElem?_cons_succ,List.getElem_cons_succ,List.getElem_cons_zero,Option.some.injEq]at a0 a1 a2;subst a0;subst a1;subst a2;rw[Zcr,Zcv]at r0 r1;rw[Zcg,Zcm]at r2;refine⟨⟨z0,z1,z2⟩,rfl,⟨r2,?_⟩⟩
 ·intro z hz;simp only[YN,YS,List.mem_cons,List.not_mem_nil,or_false]at hz;rcases hz with rfl|rfl
  ·exact r0
  ·exact r1
set_option maxRecDepth 100000 in
theorem Zws (n:Nat)(cs:List Value)(x:DataW H×List MemPlace)(hf:DataW.trod enc prog W base spare held n 120 cs=some x):∃q:QM,cs=WE q∧Zu (wh W) q:=by
 obtain⟨xs,m,rfl,_,hl,fldl,fld⟩:=DataW.trod_struct underlying120 hf;rw[show prog.cellsOf 120=33 by kernel_rfl]at hl;have ki:prog.cellsOf 3=1:=by kernel_rfl
 have ku:prog.cellsOf 22=1:=by kernel_rfl
 have sfld:∀i,i<10→(xs[i]?).isSome=true:=fun i hi=>by
  have:xs.length=10:=fldl;simp;omega
 have hp:DataW.trod enc prog W base spare held m 24 ((cs.drop 2).take (prog.cellsOf 24))=xs[2]?:=fld 2 _ rfl;rw[show prog.cellsOf 24=24 by kernel_rfl]at hp;obtain⟨y2,hy2⟩:=Option.isSome_iff_exists.1 (sfld 2 (by decide));rw[hy2]at hp;obtain⟨q,hq,qok⟩:=Zgr _ _ _ hp;obtain⟨z0,a0,r0⟩:=YV (off:=0) underlying3 ki (fld 0 _ rfl) (sfld 0 (by decide));obtain⟨z1,a1,r1⟩:=YV (off:=1) underlying3 ki (fld 1 _ rfl) (sfld 1 (by decide));obtain⟨z3,a3,r3⟩:=YV (off:=26) underlying3 ki (fld 3 _ rfl) (sfld 3 (by decide));obtain⟨z4,a4,r4⟩:=YV (off:=27) underlying22 ku (fld 4 _ rfl) (sfld 4 (by decide));obtain⟨z5,a5,r5⟩:=YV (off:=28) underlying3 ki (fld 5 _ rfl) (sfld 5 (by decide));obtain⟨z6,a6,r6⟩:=YV (off:=29) underlying3 ki (fld 6 _ rfl) (sfld 6 (by decide));obtain⟨z7,a7,r7⟩:=YV (off:=30) underlying3 ki (fld 7 _ rfl) (sfld 7 (by decide));obtain⟨_,f8⟩:=Zbb (off:=31) (by omega) (by kernel_rfl) (fld 8 _ rfl) (sfld 8 (by decide));obtain⟨_,f9⟩:=Zbb (off:=32) (by omega) (by kernel_rfl) (fld 9 _ rfl) (sfld 9 (by decide));obtain⟨ys,hys⟩:=W5 (k:=.u8) underlying31 underlying5 (by kernel_rfl) f8;obtain⟨ns,hns⟩:=W5 (k:=.u8) underlying31 underlying5 (by kernel_rfl) f9;obtain⟨g0,g1,g2,g3,g4,g5,g6,g7,g8,g9,g10,g11,g12,g13,g14,g15,g16,g17,g18,g19,g20,g21,g22,g23,g24,g25,g26,g27,g28,g29,g30,g31,g32,rfl⟩:=Yht hl;simp only[List.drop_succ_cons,List.drop_zero,List.take_succ_cons,List.take_zero,List.getElem?_cons_zero,List.getElem?_cons_succ,List.getElem_cons_succ,List.getElem_cons_zero,Option.some.injEq]at a0 a1 a3 a4 a5 a6 a7 hq hys hns;subst a0;subst a1;subst a3;subst a4;subst a5;subst a6;subst a7;rw[Zcr,Zcv]at r0 r1 r3 r5 r6 r7;rw[Zcg,Zcm]at r4;refine⟨(g31,g32,⟨z0,z1,q,z3,z4,z5,z6,z7,ys,ns⟩),?_,⟨hys,hns,⟨r4,?_,qok⟩⟩⟩
 ·simp only[WE,← hq,List.cons_append,List.nil_append]
 ·intro z hz;simp only[YN,YS,List.mem_cons,List.not_mem_nil,or_false]at hz;rcases hz with rfl|rfl|rfl|rfl|rfl|rfl
  ·exact r0
  ·exact r1
  ·exact r3
  ·exact r5
  ·exact r6
  ·exact r7
theorem Zrp (n:Nat)(cs:List Value)(x:DataW H×List MemPlace)(hf:DataW.trod enc prog W base spare held n 31 cs=some x):∃q:QS,cs=[q.1]∧Ints (wh W) .u8 q.1 q.2:=by
 have hcs:∃v,cs=[v]:=by
  rcases DataW.trod_slice underlying31 hf with⟨h0,_⟩ | ⟨a,len,cap,elems,rest,n',_,hcs,_⟩
  ·exact⟨_,h0⟩
  ·exact⟨_,hcs⟩
 obtain⟨v,rfl⟩:=hcs;obtain⟨zs,hz⟩:=W5 (k:=.u8) underlying31 underlying5 (by kernel_rfl) hf;exact⟨(v,zs),rfl,hz⟩
set_option maxRecDepth 100000 in
theorem Zio (n:Nat)(cs:List Value)(x:DataW H×List MemPlace)(hf:DataW.trod enc prog W base spare held n 34 cs=some x):∃(v:SV) (s:Zd),cs=stC s v∧Zr (wh W) v s:=by
 obtain⟨xs,m,rfl,_,hl,fldl,fld⟩:=DataW.trod_struct underlying34 hf;rw[show prog.cellsOf 34=41 by kernel_rfl]at hl;have ki:prog.cellsOf 3=1:=by kernel_rfl
 have ku:prog.cellsOf 22=1:=by kernel_rfl
 have sfld:∀i,i<18→(xs[i]?).isSome=true:=fun i hi=>by
  have:xs.length=18:=fldl;simp;omega
 have hp:DataW.trod enc prog W base spare held m 24 ((cs.drop 0).take (prog.cellsOf 24))=xs[0]?:=fld 0 _ rfl;rw[show prog.cellsOf 24=24 by kernel_rfl]at hp;obtain⟨y0,hy0⟩:=Option.isSome_iff_exists.1 (sfld 0 (by decide));rw[hy0]at hp;obtain⟨q,hq,qok⟩:=Zgr _ _ _ hp;obtain⟨z1,a1,r1⟩:=YV (off:=24) underlying22 ku (fld 1 _ rfl) (sfld 1 (by decide));obtain⟨z2,a2,r2⟩:=YV (off:=25) underlying22 ku (fld 2 _ rfl) (sfld 2 (by decide));obtain⟨z3,a3,r3⟩:=YV (off:=26) underlying22 ku (fld 3 _ rfl) (sfld 3 (by decide));obtain⟨z4,a4,r4⟩:=YV (off:=27) underlying22 ku (fld 4 _ rfl) (sfld 4 (by decide));obtain⟨z5,a5,r5⟩:=YV (off:=28) underlying22 ku (fld 5 _ rfl) (sfld 5 (by decide));obtain⟨z6,a6,r6⟩:=YV (off:=29) underlying3 ki (fld 6 _ rfl) (sfld 6 (by decide));obtain⟨z7,a7,r7⟩:=YV (off:=30) underlying3 ki (fld 7 _ rfl) (sfld 7 (by decide));obtain⟨z8,a8⟩:=Ytb (off:=31) underlying4 (by kernel_rfl) (fld 8 _ rfl) (sfld 8 (by decide));obtain⟨_,f0⟩:=Zbb (off:=32) (by omega) (by kernel_rfl) (fld 9 _ rfl) (sfld 9 (by decide));obtain⟨_,f1⟩:=Zbb (off:=33) (by omega) (by kernel_rfl) (fld 10 _ rfl) (sfld 10 (by decide));obtain⟨_,f2⟩:=Zbb (off:=34) (by omega) (by kernel_rfl) (fld 11 _ rfl) (sfld 11 (by decide));obtain⟨_,f3⟩:=Zbb (off:=35) (by omega) (by kernel_rfl) (fld 12 _ rfl) (sfld 12 (by decide));obtain⟨_,f4⟩:=Zbb (off:=36) (by omega) (by kernel_rfl) (fld 13 _ rfl) (sfld 13 (by decide));obtain⟨_,f5⟩:=Zbb (off:=37) (by omega) (by kernel_rfl) (fld 14 _ rfl) (sfld 14 (by decide));obtain⟨_,f6⟩:=Zbb (off:=38) (by omega) (by kernel_rfl) (fld 15 _ rfl) (sfld 15 (by decide));obtain⟨_,f7⟩:=Zbb (off:=39) (by omega) (by kernel_rfl) (fld 16 _ rfl) (sfld 16 (by decide));obtain⟨_,f8⟩:=Zbb (off:=40) (by omega) (by kernel_rfl) (fld 17 _ rfl) (sfld 17 (by decide));obtain⟨s0,w0⟩:=W5 (k:=.u64) underlying25 underlying22 (by kernel_rfl) f0
 obtain⟨s1,w1,o1⟩:=VU ZQ underlying26 (by kernel_rfl) Yg (by decide) Zst f1;obtain⟨s2,w2⟩:=W5 (k:=.i64) underlying27 underlying3 (by kernel_rfl) f2;obtain⟨s3,w3⟩:=W5 (k:=.i64) underlying27 underlying3 (by kernel_rfl) f3;obtain⟨s4,w4,o4⟩:=VU YT underlying28 (by kernel_rfl) V1 (by decide) Zvw f4;obtain⟨s5,w5,o5⟩:=VU ZZ underlying29 (by kernel_rfl) Yr (by decide) Zts f5;obtain⟨s6,w6,o6⟩:=VU Z6 underlying30 (by kernel_rfl) Yh (by decide) Zws f6;obtain⟨s7,w7⟩:=W5 (k:=.u8) underlying31 underlying5 (by kernel_rfl) f7;obtain⟨s8,w8,o8⟩:=VU (α:=QS) (f:=fun q=>[q.1]) (w:=1) (.slice none 0 0,[]) (Q:=fun q=>Ints (wh W) .u8 q.1 q.2) underlying32 (by kernel_rfl) (fun _=>rfl) (by decide) Zrp f8;obtain⟨g0,g1,g2,g3,g4,g5,g6,g7,g8,g9,g10,g11,g12,g13,g14,g15,g16,g17,g18,g19,g20,g21,g22,g23,g24,g25,g26,g27,g28,g29,g30,g31,g32,g33,g34,g35,g36,g37,g38,g39,g40,rfl⟩:=Ygx hl;simp only[List.drop_succ_cons,List.drop_zero,List.take_succ_cons,List.take_zero,List.getElem?_cons_zero,List.getElem?_cons_succ,List.getElem_cons_succ,List.getElem_cons_zero,Option.some.injEq]at a1 a2 a3 a4 a5 a6 a7 a8 hq w0 w1 w2 w3 w4 w5 w6 w7 w8;subst a1;subst a2;subst a3;subst a4;subst a5;subst a6;subst a7;subst a8;rw[Zcr,Zcv]at r6 r7;rw[Zcg,Zcm]at r1 r2 r3 r4 r5;refine⟨⟨g32,g33,g34,g35,g36,g37,g38,g39,g40⟩,⟨q,z1,z2,z3,z4,z5,z6,z7,z8,s0,s1,s2,s3,s4,s5,s6.map (fun x=>x.2.2),s7,xsL s8⟩,?_,⟨⟨qok,?_,?_⟩,w0,w1,o1,w2,w3,w4,o4,w5,o5,⟨s6,w6,rfl,o6⟩,w7,⟨s8,⟨?_,o8⟩,rfl⟩⟩⟩
 ·injection hq with e0 hq
  simp_all only[List.cons.injEq]
 ·intro z hz;simp only[YN,YS,List.mem_cons,List.not_mem_nil,or_false]at hz;rcases hz with rfl|rfl|rfl|rfl|rfl
  ·exact r1
  ·exact r2
  ·exact r3
  ·exact r4
  ·exact r5
 ·intro z hz;simp only[YN,YS,List.mem_cons,List.not_mem_nil,or_false]at hz;rcases hz with rfl|rfl
  ·exact r6
  ·exact r7
 ·have:=w8.s
  simpa [vsL,List.flatMap_singleton',List.map_eq_flatMap] using this
set_option maxRecDepth 100000 in
theorem Zjs (hv:Value.okWide prog W r b0 34 v)(h:DataW.Trod enc prog W base spare held 34 v d p):∃q:SV×Zd,v=stV q.2 q.1∧Zr (wh W) q.1 q.2:=by
 obtain⟨cs,rfl,_⟩:=okWide_struct underlying34 hv;obtain⟨f,hf⟩:=h;obtain⟨bv,dd,hc,hd⟩:=Zio _ _ _ hf;refine⟨(bv,dd),?_,hd⟩;have:cs=(stC dd bv).toArray:=by
  apply Array.ext'
  simpa [Value.cells] using hc
 rw[this]
end
end Go.X

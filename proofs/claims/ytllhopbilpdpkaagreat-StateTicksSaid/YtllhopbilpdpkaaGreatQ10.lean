/- Lemmas and contracts. Conditions: as each says. -/
import Derived.Laws.BytesArg
import Derived.Test.YtllhopbilpdpkaaGreatQ08
import Derived.Test.YtllhopbilpdpkaaGreatQ09
set_option linter.unusedVariables false
set_option linter.unusedSimpArgs false
set_option maxHeartbeats 12800000
set_option maxRecDepth 20000
namespace Go.X
open Go.RowKit Go.Bl Go.ChangeShapes Go.WideShapes Go.ChangeAt Go.Joins Go.Proofs Go.Proofs.Tryz
section
variable {P:Program} {H:Type} {enc:TypeId×Value->H} {W:World} {base b0:Nat} {spare:Nat->Bool} {held:Bool} {r:Reach} {v:Value} {d:DataW H} {p:List MemPlace}
theorem Y0 {n t off:Nat}{k:IntKind}{cs:List Value}{y:Option (DataW H×List MemPlace)}(ht:P.underlying t=some (.int k))(hc:P.cellsOf t=1)(h:DataW.trod enc P W base spare held n t ((cs.drop off).take (P.cellsOf t))=y)(hy:y.isSome=true) :
  ∃z,cs[off]?=some (.int k z)/\k.min<=z/\z<=k.max:=by
 obtain⟨x,rfl⟩:=Option.isSome_iff_exists.1 hy;obtain⟨z,hz,_,w⟩:=DataW.trod_int ht h;rw[hc]at hz;have hr:k.min<=z/\z<=k.max:=by simpa [Lit.wf] using w
 refine⟨z,?_,hr⟩;have:=congrArg (fun l=>l[0]?) hz
 simpa using this
theorem Yrm {n t off:Nat}{cs:List Value}{y:Option (DataW H×List MemPlace)}(ht:P.underlying t=some .bool)(hc:P.cellsOf t=1)(h:DataW.trod enc P W base spare held n t ((cs.drop off).take (P.cellsOf t))=y)(hy:y.isSome=true) :
  ∃z:Bool,cs[off]?=some (.bool z):=by
 obtain⟨x,rfl⟩:=Option.isSome_iff_exists.1 hy;obtain⟨z,hz,_⟩:=DataW.trod_bool ht h;rw[hc]at hz;refine⟨z,?_⟩;have:=congrArg (fun l=>l[0]?) hz
 simpa using this
theorem Zcw {n t off:Nat}{cs:List Value}{y:Option (DataW H×List MemPlace)}(hs:off<cs.length)(hc:P.cellsOf t=1)(h:DataW.trod enc P W base spare held n t ((cs.drop off).take (P.cellsOf t))=y)(hy:y.isSome=true) :
  ∃x,DataW.trod enc P W base spare held n t [cs[off]]=some x:=by
 obtain⟨x,rfl⟩:=Option.isSome_iff_exists.1 hy;rw[hc]at h;have e1:(cs.drop off).take 1=[cs[off]]:=by rw[List.drop_eq_getElem_cons hs];rfl
 rw[e1]at h;exact⟨x,h⟩
theorem UC {α:Type}{f:α->List Value}{w:Nat}(z:α){t e n:Nat}{Q:α->Prop}{x:DataW H×List MemPlace}(ht:P.underlying t=some (.slice e))(hc:P.cellsOf e=w)(hw:∀a,(f a).length=w)(h0w:0<w)
  (one:∀(n:Nat) (cs:List Value) (x:DataW H×List MemPlace),DataW.trod enc P W base spare held n e cs=some x->∃a,cs=f a/\Q a) (h:DataW.trod enc P W base spare held n t [v]=some x):∃l,Zd f w (wh W) v l/\∀a∈l,Q a:=by
 rcases DataW.trod_slice ht h with⟨h0,_⟩ | ⟨a,len,cap,elems,rest,n',_,hcs,_,hb,hl,hm,hlen,hel,_,_⟩
 ·injection h0 with h0
  rw[h0];exact⟨[],Zd.nil hw _,fun a ha=>by cases ha⟩
 injection hcs with hcs
 rw[hcs];rw[hc]at hel;have one':∀i,i<len->∃q:α,(∀m,m<w->W.cell? (a.add (i*w+m))=(f q)[m]?)/\Q q:=by
  intro i hi;have:=hel i hi;rw[List.getElem?_eq_getElem qf]at this;obtain⟨cs,h1,h2⟩:=Option.bind_eq_some_iff.1 this;obtain⟨q,rfl,hq⟩:=one _ _ _ h2;refine⟨q,fun m hm=>?_,hq⟩;have:=(World.cells?_some h1).2.2 m hm;rw[Zmq]at this;exact this
 obtain⟨g,hg⟩:∃g:Nat->α,∀i,i<len->(∀m,m<w->W.cell? (a.add (i*w+m))=(f (g i))[m]?)/\Q (g i):=by
  refine⟨fun i=>if hi:i<len then (one' i hi).choose else z,fun i hi=>?_⟩;simp only[hi,dif_pos];exact(one' i hi).choose_spec
 have hm':cap<=9223372036854775807:=by simpa [maxLen] using hm
 have hlr:((List.range len).map g).length=len:=qj;refine⟨(List.range len).map g,⟨hw,⟨by rw[Z1 hw],some a,cap,by rw[hlr],qf,hm',qf,(fun h=>qL),fun j c hj=>?_⟩⟩,fun q hq=>?_⟩
 ·have hjl:j<((List.range len).map g).length*w:=by
   have:=(List.getElem?_eq_some_iff.1 hj).1
   rwa [Z1 hw]at this
  rw[hlr]at hjl;have hd:j=j/w*w+j%w:=by have:=Nat.div_add_mod j w;rw[Nat.mul_comm]at this;omega
  have hi:j/w<len:=(Nat.div_lt_iff_lt_mul h0w).2 hjl;have hmw:j%w<w:=Nat.mod_lt _ h0w;have h2:=UG hw ((List.range len).map g) (j/w) (j%w) hmw;rw[<- hd]at h2;have h3:=(hg (j/w) hi).1 (j%w) hmw;rw[<- hd]at h3;refine Zgm (h3.trans ?_);have h4:((List.range len).map g)[j/w]?=some (g (j/w)):=by simp [hi]
  rw[h4,Option.bind_some]at h2;rw[<- h2];exact hj
 ·obtain⟨i,hi,rfl⟩:=List.mem_map.1 hq;exact(hg i (List.mem_range.1 hi)).2
theorem Yqf {cs:List Value}(h:cs.length=3):∃g0 g1 g2:Value,cs=g0::g1::g2::[]:=by
 match cs,h with
 | g0::g1::g2::[],_=>exact⟨g0,g1,g2,rfl⟩
theorem Yrw {cs:List Value}(h:cs.length=4):∃g0 g1 g2 g3:Value,cs=g0::g1::g2::g3::[]:=by
 match cs,h with
 | g0::g1::g2::g3::[],_=>exact⟨g0,g1,g2,g3,rfl⟩
theorem Yus {cs:List Value}(h:cs.length=6):∃g0 g1 g2 g3 g4 g5:Value,cs=g0::g1::g2::g3::g4::g5::[]:=by
 match cs,h with
 | g0::g1::g2::g3::g4::g5::[],_=>exact⟨g0,g1,g2,g3,g4,g5,rfl⟩
theorem Ykn {cs:List Value}(h:cs.length=24):∃g0 g1 g2 g3 g4 g5 g6 g7 g8 g9 g10 g11 g12 g13 g14 g15 g16 g17 g18 g19 g20 g21 g22 g23:Value,cs=g0::g1::g2::g3::g4::g5::g6::g7::g8::g9::g10::g11::g12::g13::g14::g15::g16::g17::g18::g19::g20::g21::g22::g23::[]:=by
 match cs,h with
 | g0::g1::g2::g3::g4::g5::g6::g7::g8::g9::g10::g11::g12::g13::g14::g15::g16::g17::g18::g19::g20::g21::g22::g23::[],_=>exact⟨g0,g1,g2,g3,g4,g5,g6,g7,g8,g9,g10,g11,g12,g13,g14,g15,g16,g17,g18,g19,g20,g21,g22,g23,rfl⟩
theorem Yms {cs:List Value}(h:cs.length=33):∃g0 g1 g2 g3 g4 g5 g6 g7 g8 g9 g10 g11 g12 g13 g14 g15 g16 g17 g18 g19 g20 g21 g22 g23 g24 g25 g26 g27 g28 g29 g30 g31 g32:Value,cs=g0::g1::g2::g3::g4::g5::g6::g7::g8::g9::g10::g11::g12::g13::g14::g15::g16::g17::g18::g19::g20::g21::g22::g23::g24::g25::g26::g27::g28::g29::g30::g31::g32::[]:=by
 match cs,h with
 | g0::g1::g2::g3::g4::g5::g6::g7::g8::g9::g10::g11::g12::g13::g14::g15::g16::g17::g18::g19::g20::g21::g22::g23::g24::g25::g26::g27::g28::g29::g30::g31::g32::[],_=>exact⟨g0,g1,g2,g3,g4,g5,g6,g7,g8,g9,g10,g11,g12,g13,g14,g15,g16,g17,g18,g19,g20,g21,g22,g23,g24,g25,g26,g27,g28,g29,g30,g31,g32,rfl⟩
theorem Ymo {cs:List Value}(h:cs.length=41):∃g0 g1 g2 g3 g4 g5 g6 g7 g8 g9 g10 g11 g12 g13 g14 g15 g16 g17 g18 g19 g20 g21 g22 g23 g24 g25 g26 g27 g28 g29 g30 g31 g32 g33 g34 g35 g36 g37 g38 g39 g40:Value,cs=g0::g1::g2::g3::g4::g5::g6::g7::g8::g9::g10::g11::g12::g13::g14::g15::g16::g17::g18::g19::g20::g21::g22::g23::g24::g25::g26::g27::g28::g29::g30::g31::g32::g33::g34::g35::g36::g37::g38::g39::g40::[]:=by
 match cs,h with
 | g0::g1::g2::g3::g4::g5::g6::g7::g8::g9::g10::g11::g12::g13::g14::g15::g16::g17::g18::g19::g20::g21::g22::g23::g24::g25::g26::g27::g28::g29::g30::g31::g32::g33::g34::g35::g36::g37::g38::g39::g40::[],_=>exact⟨g0,g1,g2,g3,g4,g5,g6,g7,g8,g9,g10,g11,g12,g13,g14,g15,g16,g17,g18,g19,g20,g21,g22,g23,g24,g25,g26,g27,g28,g29,g30,g31,g32,g33,g34,g35,g36,g37,g38,g39,g40,rfl⟩
end
section
variable {H:Type} {enc:TypeId×Value->H} {W:World} {base b0:Nat} {spare:Nat->Bool} {held:Bool} {r:Reach} {v:Value} {d:DataW H} {p:List MemPlace}
theorem Zfo:IntKind.i64.min = -9223372036854775808:=by decide
theorem Zfv:IntKind.i64.max=9223372036854775807:=by decide
theorem Zeq:IntKind.u64.min=0:=by decide
theorem Zfp:IntKind.u64.max=18446744073709551615:=by decide
set_option maxRecDepth 100000 in
theorem Ziy (n:Nat)(cs:List Value)(x:DataW H×List MemPlace)(hf:DataW.trod enc prog W base spare held n 24 cs=some x):∃q:Ze,cs=Jj q/\Zj q:=by
 obtain⟨xs,m,rfl,_,hl,fldl,fld⟩:=DataW.trod_struct underlying24 hf;rw[show prog.cellsOf 24=24 from qg]at hl;have ki:prog.cellsOf 3=1:=qg;have ku:prog.cellsOf 22=1:=qg;have sfld:∀i,i<24->(xs[i]?).isSome=true:=fun i hi=>by
  have:xs.length=24:=fldl;simp;omega
 obtain⟨z0,a0,r0⟩:=Y0 (off:=0) underlying22 ku (fld 0 _ rfl) (sfld 0 qh);obtain⟨z1,a1,r1⟩:=Y0 (off:=1) underlying22 ku (fld 1 _ rfl) (sfld 1 qh);obtain⟨z2,a2,r2⟩:=Y0 (off:=2) underlying22 ku (fld 2 _ rfl) (sfld 2 qh);obtain⟨z3,a3,r3⟩:=Y0 (off:=3) underlying22 ku (fld 3 _ rfl) (sfld 3 qh);obtain⟨z4,a4,r4⟩:=Y0 (off:=4) underlying22 ku (fld 4 _ rfl) (sfld 4 qh);obtain⟨z5,a5,r5⟩:=Y0 (off:=5) underlying22 ku (fld 5 _ rfl) (sfld 5 qh);obtain⟨z6,a6,r6⟩:=Y0 (off:=6) underlying22 ku (fld 6 _ rfl) (sfld 6 qh);obtain⟨z7,a7,r7⟩:=Y0 (off:=7) underlying22 ku (fld 7 _ rfl) (sfld 7 qh);obtain⟨z8,a8,r8⟩:=Y0 (off:=8) underlying22 ku (fld 8 _ rfl) (sfld 8 qh);obtain⟨z9,a9,r9⟩:=Y0 (off:=9) underlying22 ku (fld 9 _ rfl) (sfld 9 qh);obtain⟨z10,a10,r10⟩:=Y0 (off:=10) underlying22 ku (fld 10 _ rfl) (sfld 10 qh);obtain⟨z11,a11,r11⟩:=Y0 (off:=11) underlying22 ku (fld 11 _ rfl) (sfld 11 qh);obtain⟨z12,a12,r12⟩:=Y0 (off:=12) underlying22 ku (fld 12 _ rfl) (sfld 12 qh);obtain⟨z13,a13,r13⟩:=Y0 (off:=13) underlying22 ku (fld 13 _ rfl) (sfld 13 qh);obtain⟨z14,a14,r14⟩:=Y0 (off:=14) underlying3 ki (fld 14 _ rfl) (sfld 14 qh);obtain⟨z15,a15,r15⟩:=Y0 (off:=15) underlying3 ki (fld 15 _ rfl) (sfld 15 qh);obtain⟨z16,a16,r16⟩:=Y0 (off:=16) underlying3 ki (fld 16 _ rfl) (sfld 16 qh);obtain⟨z17,a17,r17⟩:=Y0 (off:=17) underlying3 ki (fld 17 _ rfl) (sfld 17 qh);obtain⟨z18,a18,r18⟩:=Y0 (off:=18) underlying3 ki (fld 18 _ rfl) (sfld 18 qh);obtain⟨z19,a19,r19⟩:=Y0 (off:=19) underlying3 ki (fld 19 _ rfl) (sfld 19 qh);obtain⟨z20,a20,r20⟩:=Y0 (off:=20) underlying3 ki (fld 20 _ rfl) (sfld 20 qh);obtain⟨z21,a21,r21⟩:=Y0 (off:=21) underlying3 ki (fld 21 _ rfl) (sfld 21 qh);obtain⟨z22,a22,r22⟩:=Y0 (off:=22) underlying3 ki (fld 22 _ rfl) (sfld 22 qh)
 obtain⟨z23,a23,r23⟩:=Y0 (off:=23) underlying3 ki (fld 23 _ rfl) (sfld 23 qh);obtain⟨g0,g1,g2,g3,g4,g5,g6,g7,g8,g9,g10,g11,g12,g13,g14,g15,g16,g17,g18,g19,g20,g21,g22,g23,rfl⟩:=Ykn hl;simp only[List.drop_succ_cons,List.drop_zero,List.take_succ_cons,List.take_zero,List.getElem?_cons_zero,List.getElem?_cons_succ,List.getElem_cons_succ,List.getElem_cons_zero,Option.some.injEq]at a0 a1 a2 a3 a4 a5 a6 a7 a8 a9 a10 a11 a12 a13 a14 a15 a16 a17 a18 a19 a20 a21 a22 a23;subst a0;subst a1;subst a2;subst a3;subst a4;subst a5;subst a6;subst a7;subst a8;subst a9;subst a10;subst a11;subst a12;subst a13;subst a14;subst a15;subst a16;subst a17;subst a18;subst a19;subst a20;subst a21;subst a22;subst a23;rw[Zfo,Zfv]at r14 r15 r16 r17 r18 r19 r20 r21 r22 r23;rw[Zeq,Zfp]at r0 r1 r2 r3 r4 r5 r6 r7 r8 r9 r10 r11 r12 r13;refine⟨⟨z0,z1,z2,z3,z4,z5,z6,z7,z8,z9,z10,z11,z12,z13,z14,z15,z16,z17,z18,z19,z20,z21,z22,z23⟩,rfl,⟨?_,?_⟩⟩
 ·intro z hz;simp only[WZ,YA,List.mem_cons,List.not_mem_nil,or_false]at hz;rcases hz with rfl|rfl|rfl|rfl|rfl|rfl|rfl|rfl|rfl|rfl|rfl|rfl|rfl|rfl
  ·exact r0
  ·exact r1
  ·exact r2
  ·exact r3
  ·exact r4
  ·exact r5
  ·exact r6
  ·exact r7
  ·exact r8
  ·exact r9
  ·exact r10
  ·exact r11
  ·exact r12
  ·exact r13
 ·intro z hz;simp only[WZ,YA,List.mem_cons,List.not_mem_nil,or_false]at hz;rcases hz with rfl|rfl|rfl|rfl|rfl|rfl|rfl|rfl|rfl|rfl
  ·exact r14
  ·exact r15
  ·exact r16
  ·exact r17
  ·exact r18
  ·exact r19
  ·exact r20
  ·exact r21
  ·exact r22
  ·exact r23
set_option maxRecDepth 100000 in
theorem Ybt (n:Nat)(cs:List Value)(x:DataW H×List MemPlace)(hf:DataW.trod enc prog W base spare held n 74 cs=some x):∃q:Zc,cs=YD q/\Zf q:=by
 obtain⟨xs,m,rfl,_,hl,fldl,fld⟩:=DataW.trod_struct underlying74 hf;rw[show prog.cellsOf 74=6 from qg]at hl;have ki:prog.cellsOf 3=1:=qg;have ku:prog.cellsOf 22=1:=qg;have sfld:∀i,i<3->(xs[i]?).isSome=true:=fun i hi=>by
  have:xs.length=3:=fldl;simp;omega
 have hp:DataW.trod enc prog W base spare held m 72 ((cs.drop 0).take (prog.cellsOf 72))=xs[0]?:=fld 0 _ rfl;rw[show prog.cellsOf 72=4 from qg]at hp;obtain⟨y0,hy0⟩:=Option.isSome_iff_exists.1 (sfld 0 qh);rw[hy0]at hp;obtain⟨ys,m2,_,_,hl2,sub_l,sub_⟩:=DataW.trod_struct underlying72 hp;have ssub_:∀i,i<4->(ys[i]?).isSome=true:=fun i hi=>by
  have:ys.length=4:=sub_l;simp;omega
 obtain⟨z0,a0,r0⟩:=Y0 (off:=0) underlying22 ku (sub_ 0 _ rfl) (ssub_ 0 qh);obtain⟨z1,a1,r1⟩:=Y0 (off:=1) underlying22 ku (sub_ 1 _ rfl) (ssub_ 1 qh);obtain⟨z2,a2,r2⟩:=Y0 (off:=2) underlying22 ku (sub_ 2 _ rfl) (ssub_ 2 qh);obtain⟨z3,a3,r3⟩:=Y0 (off:=3) underlying3 ki (sub_ 3 _ rfl) (ssub_ 3 qh);obtain⟨z4,a4,r4⟩:=Y0 (off:=4) underlying3 ki (fld 1 _ rfl) (sfld 1 qh);obtain⟨z5,a5,r5⟩:=Y0 (off:=5) underlying3 ki (fld 2 _ rfl) (sfld 2 qh);obtain⟨g0,g1,g2,g3,g4,g5,rfl⟩:=Yus hl;simp only[List.drop_succ_cons,List.drop_zero,List.take_succ_cons,List.take_zero,List.getElem?_cons_zero,List.getElem?_cons_succ,List.getElem_cons_succ,List.getElem_cons_zero,Option.some.injEq]at a0 a1 a2 a3 a4 a5;subst a0;subst a1;subst a2;subst a3;subst a4;subst a5;rw[Zfo,Zfv]at r3 r4 r5;rw[Zeq,Zfp]at r0 r1 r2;refine⟨⟨z0,z1,z2,z3,z4,z5⟩,rfl,⟨?_,?_⟩⟩
 ·intro z hz;simp only[WZ,YA,List.mem_cons,List.not_mem_nil,or_false]at hz;rcases hz with rfl|rfl|rfl
  ·exact r0
  ·exact r1
  ·exact r2
 ·intro z hz;simp only[WZ,YA,List.mem_cons,List.not_mem_nil,or_false]at hz;rcases hz with rfl|rfl|rfl
  ·exact r3
  ·exact r4
  ·exact r5
set_option maxRecDepth 100000 in
theorem Zvl (n:Nat)(cs:List Value)(x:DataW H×List MemPlace)(hf:DataW.trod enc prog W base spare held n 164 cs=some x):∃q:Zk,cs=UK q/\ZG q:=by
 obtain⟨xs,m,rfl,_,hl,fldl,fld⟩:=DataW.trod_struct underlying164 hf;rw[show prog.cellsOf 164=4 from qg]at hl;have ki:prog.cellsOf 3=1:=qg;have ku:prog.cellsOf 22=1:=qg;have sfld:∀i,i<4->(xs[i]?).isSome=true:=fun i hi=>by
  have:xs.length=4:=fldl;simp;omega
 obtain⟨z0,a0,r0⟩:=Y0 (off:=0) underlying3 ki (fld 0 _ rfl) (sfld 0 qh);obtain⟨z1,a1,r1⟩:=Y0 (off:=1) underlying3 ki (fld 1 _ rfl) (sfld 1 qh);obtain⟨z2,a2,r2⟩:=Y0 (off:=2) underlying22 ku (fld 2 _ rfl) (sfld 2 qh);obtain⟨z3,a3⟩:=Yrm (off:=3) underlying4 qg (fld 3 _ rfl) (sfld 3 qh);obtain⟨g0,g1,g2,g3,rfl⟩:=Yrw hl;simp only[List.drop_succ_cons,List.drop_zero,List.take_succ_cons,List.take_zero,List.getElem?_cons_zero,List.getElem?_cons_succ,List.getElem_cons_succ,List.getElem_cons_zero,Option.some.injEq]at a0 a1 a2 a3;subst a0;subst a1;subst a2;subst a3;rw[Zfo,Zfv]at r0 r1;rw[Zeq,Zfp]at r2;refine⟨⟨z0,z1,z2,z3⟩,rfl,⟨r2,?_⟩⟩
 ·intro z hz;simp only[WZ,YA,List.mem_cons,List.not_mem_nil,or_false]at hz;rcases hz with rfl|rfl
  ·exact r0
  ·exact r1
set_option maxRecDepth 100000 in
theorem Zym (n:Nat)(cs:List Value)(x:DataW H×List MemPlace)(hf:DataW.trod enc prog W base spare held n 167 cs=some x):∃q:Zh,cs=Yh q/\Zs q:=by
 obtain⟨xs,m,rfl,_,hl,fldl,fld⟩:=DataW.trod_struct underlying167 hf;rw[show prog.cellsOf 167=3 from qg]at hl;have ki:prog.cellsOf 3=1:=qg;have ku:prog.cellsOf 22=1:=qg;have sfld:∀i,i<3->(xs[i]?).isSome=true:=fun i hi=>by
  have:xs.length=3:=fldl;simp;omega
 obtain⟨z0,a0,r0⟩:=Y0 (off:=0) underlying3 ki (fld 0 _ rfl) (sfld 0 qh);obtain⟨z1,a1,r1⟩:=Y0 (off:=1) underlying3 ki (fld 1 _ rfl) (sfld 1 qh);obtain⟨z2,a2,r2⟩:=Y0 (off:=2) underlying22 ku (fld 2 _ rfl) (sfld 2 qh);obtain⟨g0,g1,g2,rfl⟩:=Yqf hl;simp only[List.drop_succ_cons,List.drop_zero,List.take_succ_cons,List.take_zero,List.getElem?_cons_zero,List.getElem?_cons_succ,List.getElem_cons_succ,List.getElem_cons_zero,Option.some.injEq]at a0 a1 a2;subst a0;subst a1;subst a2;rw[Zfo,Zfv]at r0 r1;rw[Zeq,Zfp]at r2;refine⟨⟨z0,z1,z2⟩,rfl,⟨r2,?_⟩⟩
 ·intro z hz;simp only[WZ,YA,List.mem_cons,List.not_mem_nil,or_false]at hz;rcases hz with rfl|rfl
  ·exact r0
  ·exact r1
set_option maxRecDepth 100000 in
theorem Zwp (n:Nat)(cs:List Value)(x:DataW H×List MemPlace)(hf:DataW.trod enc prog W base spare held n 120 cs=some x):∃q:QM,cs=YQ q/\Zr (wh W) q:=by
 obtain⟨xs,m,rfl,_,hl,fldl,fld⟩:=DataW.trod_struct underlying120 hf;rw[show prog.cellsOf 120=33 from qg]at hl;have ki:prog.cellsOf 3=1:=qg;have ku:prog.cellsOf 22=1:=qg;have sfld:∀i,i<10->(xs[i]?).isSome=true:=fun i hi=>by
  have:xs.length=10:=fldl;simp;omega
 have hp:DataW.trod enc prog W base spare held m 24 ((cs.drop 2).take (prog.cellsOf 24))=xs[2]?:=fld 2 _ rfl;rw[show prog.cellsOf 24=24 from qg]at hp;obtain⟨y2,hy2⟩:=Option.isSome_iff_exists.1 (sfld 2 qh);rw[hy2]at hp;obtain⟨q,hq,qok⟩:=Ziy _ _ _ hp;obtain⟨z0,a0,r0⟩:=Y0 (off:=0) underlying3 ki (fld 0 _ rfl) (sfld 0 qh);obtain⟨z1,a1,r1⟩:=Y0 (off:=1) underlying3 ki (fld 1 _ rfl) (sfld 1 qh);obtain⟨z3,a3,r3⟩:=Y0 (off:=26) underlying3 ki (fld 3 _ rfl) (sfld 3 qh);obtain⟨z4,a4,r4⟩:=Y0 (off:=27) underlying22 ku (fld 4 _ rfl) (sfld 4 qh);obtain⟨z5,a5,r5⟩:=Y0 (off:=28) underlying3 ki (fld 5 _ rfl) (sfld 5 qh);obtain⟨z6,a6,r6⟩:=Y0 (off:=29) underlying3 ki (fld 6 _ rfl) (sfld 6 qh);obtain⟨z7,a7,r7⟩:=Y0 (off:=30) underlying3 ki (fld 7 _ rfl) (sfld 7 qh);obtain⟨_,f8⟩:=Zcw (off:=31) qf qg (fld 8 _ rfl) (sfld 8 qh);obtain⟨_,f9⟩:=Zcw (off:=32) qf qg (fld 9 _ rfl) (sfld 9 qh);obtain⟨ys,hys⟩:=Vk (k:=.u8) underlying31 underlying5 qg f8;obtain⟨ns,hns⟩:=Vk (k:=.u8) underlying31 underlying5 qg f9;obtain⟨g0,g1,g2,g3,g4,g5,g6,g7,g8,g9,g10,g11,g12,g13,g14,g15,g16,g17,g18,g19,g20,g21,g22,g23,g24,g25,g26,g27,g28,g29,g30,g31,g32,rfl⟩:=Yms hl;simp only[List.drop_succ_cons,List.drop_zero,List.take_succ_cons,List.take_zero,List.getElem?_cons_zero,List.getElem?_cons_succ,List.getElem_cons_succ,List.getElem_cons_zero,Option.some.injEq]at a0 a1 a3 a4 a5 a6 a7 hq hys hns;subst a0;subst a1;subst a3;subst a4;subst a5;subst a6;subst a7;rw[Zfo,Zfv]at r0 r1 r3 r5 r6 r7;rw[Zeq,Zfp]at r4;refine⟨(g31,g32,⟨z0,z1,q,z3,z4,z5,z6,z7,ys,ns⟩),?_,⟨hys,hns,⟨r4,?_,qok⟩⟩⟩
 ·simp only[YQ,<- hq,List.cons_append,List.nil_append]
 ·intro z hz;simp only[WZ,YA,List.mem_cons,List.not_mem_nil,or_false]at hz;rcases hz with rfl|rfl|rfl|rfl|rfl|rfl
  ·exact r0
  ·exact r1
  ·exact r3
  ·exact r5
  ·exact r6
  ·exact r7
theorem Yan (n:Nat)(cs:List Value)(x:DataW H×List MemPlace)(hf:DataW.trod enc prog W base spare held n 31 cs=some x):∃q:QS,cs=[q.1]/\Ints (wh W) .u8 q.1 q.2:=by
 have hcs:∃v,cs=[v]:=by
  rcases DataW.trod_slice underlying31 hf with⟨h0,_⟩ | ⟨a,len,cap,elems,rest,n',_,hcs,_⟩
  ·exact⟨_,h0⟩
  ·exact⟨_,hcs⟩
 obtain⟨v,rfl⟩:=hcs;obtain⟨zs,hz⟩:=Vk (k:=.u8) underlying31 underlying5 qg hf;exact⟨(v,zs),rfl,hz⟩
set_option maxRecDepth 100000 in
theorem Zmu (n:Nat)(cs:List Value)(x:DataW H×List MemPlace)(hf:DataW.trod enc prog W base spare held n 34 cs=some x):∃(v:SV) (s:Zg),cs=stC s v/\Zp (wh W) v s:=by
 obtain⟨xs,m,rfl,_,hl,fldl,fld⟩:=DataW.trod_struct underlying34 hf;rw[show prog.cellsOf 34=41 from qg]at hl;have ki:prog.cellsOf 3=1:=qg;have ku:prog.cellsOf 22=1:=qg;have sfld:∀i,i<18->(xs[i]?).isSome=true:=fun i hi=>by
  have:xs.length=18:=fldl;simp;omega
 have hp:DataW.trod enc prog W base spare held m 24 ((cs.drop 0).take (prog.cellsOf 24))=xs[0]?:=fld 0 _ rfl;rw[show prog.cellsOf 24=24 from qg]at hp;obtain⟨y0,hy0⟩:=Option.isSome_iff_exists.1 (sfld 0 qh);rw[hy0]at hp;obtain⟨q,hq,qok⟩:=Ziy _ _ _ hp;obtain⟨z1,a1,r1⟩:=Y0 (off:=24) underlying22 ku (fld 1 _ rfl) (sfld 1 qh);obtain⟨z2,a2,r2⟩:=Y0 (off:=25) underlying22 ku (fld 2 _ rfl) (sfld 2 qh);obtain⟨z3,a3,r3⟩:=Y0 (off:=26) underlying22 ku (fld 3 _ rfl) (sfld 3 qh);obtain⟨z4,a4,r4⟩:=Y0 (off:=27) underlying22 ku (fld 4 _ rfl) (sfld 4 qh);obtain⟨z5,a5,r5⟩:=Y0 (off:=28) underlying22 ku (fld 5 _ rfl) (sfld 5 qh);obtain⟨z6,a6,r6⟩:=Y0 (off:=29) underlying3 ki (fld 6 _ rfl) (sfld 6 qh);obtain⟨z7,a7,r7⟩:=Y0 (off:=30) underlying3 ki (fld 7 _ rfl) (sfld 7 qh);obtain⟨z8,a8⟩:=Yrm (off:=31) underlying4 qg (fld 8 _ rfl) (sfld 8 qh);obtain⟨_,f0⟩:=Zcw (off:=32) qf qg (fld 9 _ rfl) (sfld 9 qh);obtain⟨_,f1⟩:=Zcw (off:=33) qf qg (fld 10 _ rfl) (sfld 10 qh);obtain⟨_,f2⟩:=Zcw (off:=34) qf qg (fld 11 _ rfl) (sfld 11 qh);obtain⟨_,f3⟩:=Zcw (off:=35) qf qg (fld 12 _ rfl) (sfld 12 qh);obtain⟨_,f4⟩:=Zcw (off:=36) qf qg (fld 13 _ rfl) (sfld 13 qh);obtain⟨_,f5⟩:=Zcw (off:=37) qf qg (fld 14 _ rfl) (sfld 14 qh);obtain⟨_,f6⟩:=Zcw (off:=38) qf qg (fld 15 _ rfl) (sfld 15 qh);obtain⟨_,f7⟩:=Zcw (off:=39) qf qg (fld 16 _ rfl) (sfld 16 qh);obtain⟨_,f8⟩:=Zcw (off:=40) qf qg (fld 17 _ rfl) (sfld 17 qh);obtain⟨s0,w0⟩:=Vk (k:=.u64) underlying25 underlying22 qg f0;obtain⟨s1,w1,o1⟩:=UC ZQ underlying26 qg Z8 qh Ybt f1;obtain⟨s2,w2⟩:=Vk (k:=.i64) underlying27 underlying3 qg f2;obtain⟨s3,w3⟩:=Vk (k:=.i64) underlying27 underlying3 qg f3;obtain⟨s4,w4,o4⟩:=UC Yg underlying28 qg VM qh Zvl f4
 obtain⟨s5,w5,o5⟩:=UC ZT underlying29 qg Yd qh Zym f5;obtain⟨s6,w6,o6⟩:=UC Z0 underlying30 qg Ya qh Zwp f6;obtain⟨s7,w7⟩:=Vk (k:=.u8) underlying31 underlying5 qg f7;obtain⟨s8,w8,o8⟩:=UC (α:=QS) (f:=fun q=>[q.1]) (w:=1) (.slice none 0 0,[]) (Q:=fun q=>Ints (wh W) .u8 q.1 q.2) underlying32 qg (fun _=>rfl) qh Yan f8;obtain⟨g0,g1,g2,g3,g4,g5,g6,g7,g8,g9,g10,g11,g12,g13,g14,g15,g16,g17,g18,g19,g20,g21,g22,g23,g24,g25,g26,g27,g28,g29,g30,g31,g32,g33,g34,g35,g36,g37,g38,g39,g40,rfl⟩:=Ymo hl;simp only[List.drop_succ_cons,List.drop_zero,List.take_succ_cons,List.take_zero,List.getElem?_cons_zero,List.getElem?_cons_succ,List.getElem_cons_succ,List.getElem_cons_zero,Option.some.injEq]at a1 a2 a3 a4 a5 a6 a7 a8 hq w0 w1 w2 w3 w4 w5 w6 w7 w8;subst a1;subst a2;subst a3;subst a4;subst a5;subst a6;subst a7;subst a8;rw[Zfo,Zfv]at r6 r7;rw[Zeq,Zfp]at r1 r2 r3 r4 r5;refine⟨⟨g32,g33,g34,g35,g36,g37,g38,g39,g40⟩,⟨q,z1,z2,z3,z4,z5,z6,z7,z8,s0,s1,s2,s3,s4,s5,s6.map (fun x=>x.2.2),s7,xsL s8⟩,?_,⟨⟨qok,?_,?_⟩,w0,w1,o1,w2,w3,w4,o4,w5,o5,⟨s6,w6,rfl,o6⟩,w7,⟨s8,⟨?_,o8⟩,rfl⟩⟩⟩
 ·injection hq with e0 hq
  simp_all only[List.cons.injEq]
 ·intro z hz;simp only[WZ,YA,List.mem_cons,List.not_mem_nil,or_false]at hz;rcases hz with rfl|rfl|rfl|rfl|rfl
  ·exact r1
  ·exact r2
  ·exact r3
  ·exact r4
  ·exact r5
 ·intro z hz;simp only[WZ,YA,List.mem_cons,List.not_mem_nil,or_false]at hz;rcases hz with rfl|rfl
  ·exact r6
  ·exact r7
 ·have:=w8.s
  simpa [vsL,List.flatMap_singleton',List.map_eq_flatMap] using this
set_option maxRecDepth 100000 in
theorem Znf (hv:Value.okWide prog W r b0 34 v)(h:DataW.Trod enc prog W base spare held 34 v d p):∃q:SV×Zg,v=stV q.2 q.1/\Zp (wh W) q.1 q.2:=by
 obtain⟨cs,rfl,_⟩:=okWide_struct underlying34 hv;obtain⟨f,hf⟩:=h;obtain⟨bv,dd,hc,hd⟩:=Zmu _ _ _ hf;refine⟨(bv,dd),?_,hd⟩;have:cs=(stC dd bv).toArray:=by
  apply Array.ext'
  simpa [Value.cells] using hc
 rw[this]
end
open Go.RowKit Go.Bl
section
variable {P:Program}
def strB (xs:List Int):ByteArray:=⟨(xs.map fun n=>UInt8.ofNat n.toNat).toArray⟩
theorem GN {src dst e:TypeId}(hs:P.underlying src=some (.slice e))(he:P.underlying e=some (.int .u8))(hd:P.underlying dst=some .string){v:Value}{xs:List Int}{L:Own}{h:PH}{K:Value->Prop}(hx:Ints h .u8 v xs)(hk:K (.string (strB xs))):Yeb P (convert src dst v) L h K:=by
 obtain⟨a,ca,rfl,_,_,hn,hc⟩:=hx.open;refine⟨_,fun W hg=>?_,hk⟩
 cases a with
 | none =>
  have:xs=[]:=List.eq_nil_of_length_eq_zero (by have:=hn rfl;omega);subst this;rw[run_convert_bytes_nil W src e hs he _ _ dst hd]
  rfl
 | some q =>
  rw[run_convert_bytes_string W src dst e _ _ _ hs he hd];have hcs:GK L h (UI (some q) 0) 0 xs.length fun vs=>vs=xs.map (Value.int .u8):=by
   rw[J9 xs.length 0 (xs.map (Value.int .u8)) _ qj fun m hm=>by
    rw[Nat.zero_add,Nat.zero_add,hc m hm]
    simp [at0,List.getD,hm]]
  have e0:UI (some q) 0=some q:=by simp [UI,Addr.add]
  rw[e0]at hcs;obtain⟨vs,rfl,hr⟩:=JE (P:=P) hcs;have hl:(loadCells q xs.length).run P W = .ok (xs.map (Value.int .u8)).toArray W:=by
   have:=hr W #[] hg
   simpa [loadCells] using this
  rw[run_bytesToString W q _ _ xs hl,foldl_push_bytes];simp [strB,ByteArray.empty,ByteArray.emptyWithCapacity]
  rfl
theorem Ztm {T:Nat}(x y:Operand)(a b:ByteArray)(K:Value->Prop)(t:Zm K):VO P .neq T x y (.string a) (.string b) K t=K (.bool (!(a.toList == b.toList))) :=
 Yw (fun W=>by simp [eqGuard,binOp,Op.stringOp,bne]) K
theorem Ztr {T:Nat}(x y:Operand)(a b:ByteArray)(K:Value->Prop)(t:Zm K):VO P .eql T x y (.string a) (.string b) K t=K (.bool (a.toList == b.toList)) :=
 Yw (fun W=>by simp [eqGuard,binOp,Op.stringOp]) K
end
end Go.X

/- Lemmas and contracts. Conditions: as each says. -/
import Derived.Test.YtllhopbilpdpkaaGreatQ35
set_option linter.unusedVariables false
set_option linter.unusedSimpArgs false
set_option maxHeartbeats 12800000
set_option maxRecDepth 20000
namespace Go.X
open Go.RowKit Go.Proofs Go.Bl Go.Proofs.Tryz
variable {L:Own} {h:PH} {K:PK}
structure Zw (h:PH)(q:RV)(r:Zf):Prop where
 o:Ints h .i64 q.o r.out
 l:Ints h .i64 q.l r.left
 s:Ints h .i64 q.s r.started
 d:Ints h .i64 q.d r.done
theorem Zwn {o:Option (Nat×Nat)}{xs:List Value}:∀ {L:Own},Ap L h→(∀x∈L,apB o x.b)→Ap L (JV h o xs)
 | [],_,_=>trivial
 | _::_,ap,hn=>⟨Vi (hn _ List.mem_cons_self) ap.1,Zwn ap.2 fun x hx=>hn x (List.mem_cons_of_mem _ hx)⟩
theorem Zkd {b:Nat}:∀ {L:Own},ZT b L→∀x∈L,x.b≠b
 | [],_,_,hx=>by cases hx
 | _::_,ha,x,hx=>by
  rcases List.mem_cons.1 hx with rfl|hx
  ·exact ha.1
  ·exact Zkd ha.2 x hx
theorem Yui {e sz:Nat}{o:Option (Nat×Nat)}{xs:List Value}(nd:Nd (oent e sz o xs L)):∀x∈L,apB o x.b:=fun x hx=>by
 cases o with
 | none=>trivial
 | some p=>exact Ne.symm (Zkd nd.1 x hx)
theorem Yis {e sz:Nat}{o:Option (Nat×Nat)}{xs:List Value}(nd:Nd (oent e sz o xs L)):Nd L:=by
 cases o with
 | none=>exact nd
 | some p=>exact nd.2
theorem UH {e sz n:Nat}{o:Option (Nat×Nat)}{xs:List Value}{a:Zp}(ok:okO o n)(hl:xs.length=n*sz)(hn:n≤9223372036854775807)(ap:Ap (a::oent e sz o xs L) h)(nd:Nd (a::oent e sz o xs L))(he:e≠4294967295:=by first|decide|omega) :
  ∃h',PH.le h h'∧Za (a::oent e sz o xs L) h (a::L) h'∧Sl h' (ovs o n) n sz xs∧Ap (a::L) h'∧Nd (a::L):=by
 have ap2:=Ap.perm oent_perm ap;have nd2:=Nd.perm oent_perm nd;have ao:apO o [] h:=YL ap2;exact⟨JV h o xs,Y9 ao xs,(Za.perm h oent_perm).trans (Y4 o xs _ h he),Vv ok hl hn,Zwn (Ap.oent ap2) (Yui nd2),Yis nd2⟩
section
variable {e0 s0 e1 s1 e2 s2 e3 s3 e4 s4 e5 s5:Nat} {o0 o1 o2 o3 o4 o5:Option (Nat×Nat)} {X0 X1 X2 X3 X4 X5:List Value} {a:Zp}
theorem Yzj:(a::oent e0 s0 o0 X0 (oent e1 s1 o1 X1 (oent e2 s2 o2 X2 L))).Perm (a::oent e2 s2 o2 X2 (oent e0 s0 o0 X0 (oent e1 s1 o1 X1 L))):=by
 refine List.Perm.cons _ ?_;exact(Z7 o0 X0 (YD o1 o2 X1 X2 _)).trans (YD o0 o2 X0 X2 _)
theorem Yfs:(a::oent e0 s0 o0 X0 L).Perm (a::oent e0 s0 o0 X0 (oent e1 s1 none X1 L)):=List.Perm.refl _
theorem Yry:(a::oent e0 s0 o0 X0 (oent e1 s1 o1 X1 (oent e2 s2 o2 X2 L))).Perm (a::oent e0 s0 o0 X0 (oent e2 s2 o2 X2 (oent e1 s1 o1 X1 L))) :=
 List.Perm.cons _ (Z7 o0 X0 (YD o1 o2 X1 X2 _))
theorem Yyf:(a::oent e0 s0 o0 X0 (oent e1 s1 o1 X1 (oent e2 s2 o2 X2 (oent e3 s3 o3 X3 L)))).Perm (a::oent e0 s0 o0 X0 (oent e3 s3 o3 X3 (oent e4 s4 none X4 (oent e2 s2 o2 X2 (oent e1 s1 o1 X1 L))))):=by
 refine List.Perm.cons _ (Z7 o0 X0 ?_);show (oent e1 s1 o1 X1 (oent e2 s2 o2 X2 (oent e3 s3 o3 X3 L))).Perm (oent e3 s3 o3 X3 (oent e2 s2 o2 X2 (oent e1 s1 o1 X1 L)));refine(YD o1 o2 X1 X2 _).trans ?_;refine(Z7 o2 X2 (YD o1 o3 X1 X3 _)).trans ?_;exact YD o2 o3 X2 X3 _
theorem permT3:(a::oent e0 s0 o0 X0 (oent e1 s1 o1 X1 (oent e2 s2 o2 X2 (oent e3 s3 o3 X3 (oent e4 s4 o4 X4 (oent e5 s5 o5 X5 L)))))).Perm (a::oent e0 s0 o0 X0 (oent e4 s4 o4 X4 (oent e5 s5 o5 X5 (oent e1 s1 o1 X1 (oent e2 s2 o2 X2 (oent e3 s3 o3 X3 L)))))):=by
 refine List.Perm.cons _ (Z7 o0 X0 ?_);have up:∀ {e s:Nat} {o:Option (Nat×Nat)} {X:List Value} {R:Own},(oent e1 s1 o1 X1 (oent e2 s2 o2 X2 (oent e3 s3 o3 X3 (oent e s o X R)))).Perm (oent e s o X (oent e1 s1 o1 X1 (oent e2 s2 o2 X2 (oent e3 s3 o3 X3 R)))):=fun {e s o X R} =>
  (Z7 o1 X1 ((Z7 o2 X2 (YD o3 o X3 X _)).trans (YD o2 o X2 X _))).trans (YD o1 o X1 X _)
 exact up.trans (Z7 o4 X4 up)
end
section
variable {e0 s0 e1 s1 e2 s2 e3 s3 e4 s4 e5 s5:Nat} {o0 o1 o2 o3 o4 o5:Option (Nat×Nat)} {X0 X1 X2 X3 X4 X5:List Value} {a b c d:Zp}
theorem up3 {e s:Nat}{o:Option (Nat×Nat)}{X:List Value}{R:Own}:(b::c::d::oent e s o X R).Perm (oent e s o X (b::c::d::R)):=Yn [b,c,d]
theorem Yho:(a::b::c::d::oent e0 s0 o0 X0 L).Perm (a::oent e0 s0 o0 X0 (b::c::d::L)):=List.Perm.cons _ up3
theorem permT5:(a::b::c::d::oent e0 s0 o0 X0 (oent e1 s1 o1 X1 (oent e2 s2 o2 X2 L))).Perm (a::oent e0 s0 o0 X0 (oent e1 s1 o1 X1 (oent e2 s2 o2 X2 (b::c::d::L)))) :=
 List.Perm.cons _ (up3.trans (Z7 o0 X0 (up3.trans (Z7 o1 X1 up3))))
theorem permT7:(b::c::d::oent e1 s1 o1 X1 (oent e2 s2 o2 X2 (oent e3 s3 o3 X3 (oent e4 s4 o4 X4 (oent e5 s5 o5 X5 L))))).Perm (oent e1 s1 o1 X1 (oent e2 s2 o2 X2 (oent e3 s3 o3 X3 (oent e4 s4 o4 X4 (oent e5 s5 o5 X5 (b::c::d::L)))))) :=
 up3.trans (Z7 o1 X1 (up3.trans (Z7 o2 X2 (up3.trans (Z7 o3 X3 (up3.trans (Z7 o4 X4 up3)))))))
theorem Zex:(a::oent e0 s0 o0 X0 (b::c::d::oent e1 s1 o1 X1 (oent e2 s2 o2 X2 (oent e3 s3 o3 X3 (oent e4 s4 o4 X4 (oent e5 s5 o5 X5 L)))))).Perm (a::oent e0 s0 o0 X0 (oent e1 s1 o1 X1 (oent e2 s2 o2 X2 (oent e3 s3 o3 X3 (oent e4 s4 o4 X4 (oent e5 s5 o5 X5 (b::c::d::L))))))) :=
 List.Perm.cons _ (Z7 o0 X0 permT7)
theorem Ypb:(a::oent e0 s0 o0 X0 (oent e1 s1 o1 X1 (oent e2 s2 o2 X2 (oent e3 s3 o3 X3 (oent e4 s4 o4 X4 (oent e5 s5 o5 X5 (b::c::d::L))))))).Perm (a::b::c::d::oent e0 s0 o0 X0 (oent e4 s4 o4 X4 (oent e5 s5 o5 X5 (oent e1 s1 o1 X1 (oent e2 s2 o2 X2 (oent e3 s3 o3 X3 L)))))) :=
 permT3.trans (List.Perm.cons _ ((Z7 o0 X0 permT7.symm).trans up3.symm))
end
theorem Wfg (q:Zd)(cs:List Zc):∀k,∀z∈ouN q cs k,0≤z∧z<k
 | 0,z,hz=>by cases hz
 | k+1,z,hz=>by
  rw[ouN]at hz;split at hz
  ·rcases List.mem_append.1 hz with hz|hz
   ·have:=Wfg q cs k z hz;omega
   ·rw[List.mem_singleton]at hz;omega
  ·have:=Wfg q cs k z hz;omega
theorem st_b {p:Zd}{t:Int}{n:Nat}(n0:0<n)(W:List Int){x:StX}(hW:∀z∈W,z<n)(h1:∀z∈x.out,0≤z∧z<n)(h2:∀z∈x.go,0≤z∧z<n):∀k,k≤W.length→(∀z∈(stK p t W x k).out,0≤z∧z<(n:Int))∧(∀z∈(stK p t W x k).go,0≤z∧z<(n:Int))∧(stK p t W x k).out.length≤x.out.length+k∧(stK p t W x k).go.length≤x.go.length+k
 | 0,_=>⟨h1,h2,Nat.le_refl _,Nat.le_refl _⟩
 | k+1,hk=>by
  obtain⟨i1,i2,i3,i4⟩:=st_b (p:=p) (t:=t) n0 W hW h1 h2 k (by omega);have hz:=hW (at0 W k) (by rw[← Ye (by omega)];exact List.getElem_mem _);have hz2:(((at0 W k).toNat:Nat):Int)<n:=by omega
  have new:∀l:List Int,(∀z∈l,0≤z∧z<(n:Int))→∀z∈l++[((at0 W k).toNat:Int)],0≤z∧z<(n:Int):=fun l hl z hz=>by
   rcases List.mem_append.1 hz with hz|hz
   ·exact hl z hz
   ·rw[List.mem_singleton]at hz;omega
  rw[stK,J2];split
  ·exact⟨i1,new _ i2,by simp only;omega,by simp only[List.length_append,List.length_singleton];omega⟩
  ·exact⟨new _ i1,i2,by simp only[List.length_append,List.length_singleton];omega,by simp only;omega⟩
theorem Yrw {W:List Int}{x:MoX}{n:Nat}(n0:0<n)(hW:∀z∈W,z<n)(h0:∀z∈x.dn,0≤z∧z<n):∀k,k≤W.length→∀z∈(moK W x k).dn,0≤z∧z<(n:Int)
 | 0,_=>h0
 | k+1,hk=>fun z hz=>by
  have ih:=Yrw n0 hW h0 k (by omega);have hw:=hW (at0 W k) (by rw[← Ye (by omega)];exact List.getElem_mem _);have e:(moK W x (k+1)).dn=if moB (gr Z5 (moK W x k).mo (at0 W k).toNat) (moK W x k).tr then (moK W x k).dn++[((at0 W k).toNat:Int)] else (moK W x k).dn:=rfl
  rw[e]at hz;split at hz
  ·rcases List.mem_append.1 hz with hz|hz
   ·exact ih z hz
   ·rw[List.mem_singleton]at hz;omega
  ·exact ih z hz
theorem Yof {l:List Int}{v:Value}(sl:Sl h v l.length 1 (l.map (.int .i64)))(hl:∀z∈l,0≤z∧z<1000000):Ints h .i64 v l:=⟨sl,fun z hz=>by
 rw[show IntKind.i64.min = -9223372036854775808 by decide,show IntKind.i64.max=9223372036854775807 by decide];have:=hl z hz
 omega⟩
open Go.RowKit Go.Proofs Go.Bl Go.Proofs.Tryz
variable {L:Own} {h:PH} {K:PK}
theorem oneO (o:Option (Nat×Nat))(n:Nat):(ovs o n).oneCell'=true:=Zxh o n
theorem Yhu (p q:Zd)(x y:Operand)(K:Value→Prop)(t:Zm K):VN prog .neq 24 x y (WR p) (WR q) K t=K (.bool (!decide (p=q))):=by
 have e:decide (p=q)=decide (Ys p++Yo p=Ys q++Yo q):=by
  rw[decide_eq_decide];exact⟨fun h=>by rw[h],Zlp⟩
 rw[e];exact UT (T:=24) (ks:=Wdn) (by kernel_rfl) (by kernel_rfl) (by kernel_rfl) (by kernel_rfl) (Ys p++Yo p) (Ys q++Yo q) rfl rfl x y K t
theorem Zq.mono {s:Ze}{D D':Nat}(h:Zq s D)(hd:D≤D'):Zq s D' :=
 ⟨h.r,h.ok,h.ep,h.be,h.ml,h.pl,h.en,h.ex,h.dd,Nat.le_trans h.dn hd,h.oo,h.on,h.mm,h.mn,h.mon,h.top⟩
theorem lv_ml {s:Ze}{t:Int}:(lvS s t).members.length=s.members.length:=by
 have:∀(W:List Int) (x:List Zc×List Zi) k,(lvK t W x k).1.length=x.1.length:=fun W x k=>by
  induction k with
  | zero=>rfl
  | succ k ih=>rw[lvK,Zcr];simp only[List.length_set];exact ih
 exact this _ _ _
structure Fr (s S:Ze):Prop where
 par:S.par=s.par
 ep:S.ep=s.ep
 k:S.marks=s.marks
 r:S.ring=s.ring
 t:S.motions=s.motions
 o:S.pool=s.pool
 e:S.entry=s.entry
 l:S.members.length=s.members.length
theorem Fr.next {s S S':Ze}(h:Fr s S)(h2:Fr S S'):Fr s S':=⟨h2.par.trans h.par,h2.ep.trans h.ep,h2.k.trans h.k,h2.r.trans h.r,h2.t.trans h.t,h2.o.trans h.o,h2.e.trans h.e,h2.l.trans h.l⟩
theorem Yat (s:Ze):Fr s (wgS s):=⟨rfl,rfl,rfl,rfl,rfl,rfl,rfl,Vf _ _ _⟩
theorem Zzt (s:Ze)(r:Zf):Fr s (mtS s r):=⟨rfl,rfl,rfl,rfl,rfl,rfl,rfl,by
 have:∀(p:Zd) (W:List Nat) (P:List Int) (x:List Zc×List Int) k,(mtK p W P x k).1.length=x.1.length:=fun p W P x k=>by
  induction k with
  | zero=>rfl
  | succ k ih=>rw[mtK,U9];simp only[List.length_set];exact ih
 exact this _ _ _ _ _⟩
theorem Zys (s:Ze)(r:Zf):Fr s (fnS s r):=⟨rfl,rfl,rfl,rfl,rfl,rfl,rfl,Vf _ _ _⟩
theorem Zrg (s:Ze)(t:Int):Fr s (ejS s t s.members.length):=⟨rfl,rfl,rfl,rfl,rfl,rfl,rfl,Wy _ _ _⟩
theorem Yac (s:Ze)(t:Int):Fr s (lvS s t):=⟨rfl,rfl,rfl,rfl,rfl,rfl,rfl,lv_ml⟩
theorem Ywz (s:Ze)(r:Zf)(t:Int):(enS s r t).par=s.par∧(enS s r t).ep=s.ep∧(enS s r t).marks=s.marks∧(enS s r t).ring=s.ring∧(enS s r t).motions=s.motions:=by
 unfold enS;split
 ·exact⟨rfl,rfl,rfl,rfl,rfl⟩
 ·exact⟨rfl,rfl,rfl,rfl,rfl⟩
theorem Gy {o:Option (Nat×Nat)}{n:Nat}(ho:okO o n):n≤9223372036854775807:=by
 cases o with
 | none=>have:n=0:=ho;omega
 | some p=>have:=ho.2;have:=ho.1;simp only[maxLen]at *;omega
theorem Zxa {s:Ze}(v:SV)(hs:Zo h v s)(few:ZD s)(fd:s.dues.length≤29000)(hf:Yb s=true)(he:s.ep<1073741824)(hA1:W6 s≤140737488355328)(hA8:W6 (tk8 s).1≤18446744073709551615)
  (hk:∀h' u q,PH.le h h'→Zo h' u (YP s)→Zw h' q (Yz s)→K (.tuple #[stV (YP s) u,rpV (Yz s) q,.int .i64 0]) L h') :
  Zb prog 25 [stV s v] L h K:=by
 have hv0:=hs;have ti:Zq s 29000:=Yex hs hf he fd;obtain⟨pa,pc,ma,mc,ea,ec,xa,xc,oa,oc,da,dc,ta,tc,ka,kc,ra,rc,rfl⟩:=hs.slices;have fewS:Zv s:=by
  have f1:=few.p;have f2:=few.m;have f3:=few.e;have f4:=few.x;have f5:=few.o;have f6:=few.d;have f7:=few.t;have f8:=few.r
  constructor<;>omega
 have hpc:=Z6 ti.r;have hep:=ti.ep;have hml:=ti.ml;have hw:0≤s.par.wait∧s.par.wait≤1000:=by omega
 have ht:0≤min (s.ep+s.par.wait) 2147483647∧min (s.ep+s.par.wait) 2147483647≤2147483647:=by omega
 obtain⟨t,hte⟩:∃t,t=min (s.ep+s.par.wait) 2147483647:=⟨_,rfl⟩
 rw[← hte]at ht;have hact:0≤W6 s:=by have:=VX (ks:=s.marks) ti.be.m;show 0≤VA s.members;omega
 obtain⟨S2,hS2⟩:∃x,x=wgS s:=⟨_,rfl⟩
 obtain⟨R2,hR2⟩:∃x,x=wgR s (r0P s):=⟨_,rfl⟩
 have e2:tk2 s=(S2,R2):=by rw[hS2,hR2];rfl
 have ti2:Zq S2 29000:=hS2 ▸ Zqq ti;have f2:Fr s S2:=hS2 ▸ Yat s;have ra2:0≤R2.act∧R2.act≤18446744073709551615:=by rw[hR2];show 0≤W6 s∧W6 s≤_;omega
 have rp2:R2.paid=0:=by rw[hR2];rfl
 obtain⟨S3,hS3⟩:∃x,x=mtS S2 R2:=⟨_,rfl⟩
 obtain⟨R3,hR3⟩:∃x,x=mtR S2 R2:=⟨_,rfl⟩
 have e3:tk3 s=(S3,R3):=by rw[hS3,hR3];show (mtS (tk2 s).1 (tk2 s).2,mtR (tk2 s).1 (tk2 s).2)=_;rw[e2]
 have ti3:Zq S3 29000:=hS3 ▸ Ydy ti2 ra2;have f3:Fr s S3:=f2.next (hS3 ▸ Zzt S2 R2);have rb3:R3.burned=0:=by rw[hR3,hR2];rfl
 have rf3:R3.fees=0:=by rw[hR3,hR2];rfl
 obtain⟨S4,hS4⟩:∃x,x=fnS S3 R3:=⟨_,rfl⟩
 obtain⟨R4,hR4⟩:∃x,x=fnR S3 R3 S3.members.length:=⟨_,rfl⟩
 have e4:tk4 s=(S4,R4):=by rw[hS4,hR4];show (fnS (tk3 s).1 (tk3 s).2,fnR (tk3 s).1 (tk3 s).2 (tk3 s).1.members.length)=_;rw[e3]
 have ti4:Zq S4 29000:=hS4 ▸ Ycr ti3 rb3;have f4:Fr s S4:=f3.next (hS4 ▸ Zys S3 R3);have p4:S4.purses=S3.purses:=by rw[hS4];rfl
 have d4:S4.dues=s.dues:=by rw[hS4,hS3,hS2];rfl
 have x4:S4.exit=s.exit:=by rw[hS4,hS3,hS2];rfl
 have ro4:R4.out=[]∧R4.left=[]∧R4.started=[]∧R4.done=[]:=by rw[hR4,hR3,hR2];exact⟨rfl,rfl,rfl,rfl⟩
 obtain⟨S5,hS5⟩:∃x,x=ejS S4 t S4.members.length:=⟨_,rfl⟩
 obtain⟨R5,hR5⟩:∃x,x=ejR S4 R4 S4.members.length:=⟨_,rfl⟩
 have e5:tk5 s=(S5,R5):=by rw[hS5,hR5];show Zti (atP s) (tk4 s)=_;rw[e4,show atP s=t from hte.symm];rfl
 have f5:Fr s S5:=f4.next (hS5 ▸ Zrg S4 t);have ti5:Zq S5 29128:=by have:=Zdq ti4 ht (Nat.le_refl S4.members.length);rw[hS5];exact this.mono (by have:=f4.l;omega)
 have p5:S5.purses=S4.purses:=by rw[hS5];rfl
 have ro5:R5.left=[]∧R5.started=[]∧R5.done=[]∧R5.out=ouN S4.par S4.members S4.members.length:=by
  rw[hR5];refine⟨ro4.2.1,ro4.2.2.1,ro4.2.2.2,?_⟩;show R4.out++_=_;rw[ro4.1];rfl
 have ol5:R5.out.length≤128:=by rw[ro5.2.2.2];have:=Zgr S4.par S4.members S4.members.length;have:=f4.l;omega
 have ob5:∀z∈R5.out,0≤z∧z<((128:Nat):Int):=by rw[ro5.2.2.2];intro z hz;have:=Wfg S4.par S4.members S4.members.length z hz;have:=f4.l;omega
 obtain⟨S7,hS7⟩:∃x,x=lvS S5 t:=⟨_,rfl⟩
 obtain⟨R7,hR7⟩:∃x,x=lvR S5 R5:=⟨_,rfl⟩
 have e7:tk7 s=(S7,R7):=by rw[hS7,hR7];show (lvS (tk5 s).1 (atP s),lvR (tk5 s).1 (tk5 s).2)=_;rw[e5,show atP s=t from hte.symm]
 have ti7:Zq S7 29192:=hS7 ▸ Yll ti5 ht;have f7:Fr s S7:=f5.next (hS7 ▸ Yac S5 t);have ro7:R7.out=R5.out∧R7.left=lvW S5∧R7.started=[]∧R7.done=[]:=by rw[hR7];exact⟨rfl,rfl,ro5.2.1,ro5.2.2.1⟩
 obtain⟨S8,hS8⟩:∃x,x=enS S7 R7 t:=⟨_,rfl⟩
 obtain⟨R8,hR8⟩:∃x,x=enR S7 R7 t:=⟨_,rfl⟩
 have e8:tk8 s=(S8,R8):=by rw[hS8,hR8];show (enS (tk7 s).1 (tk7 s).2 (atP s),enR (tk7 s).1 (tk7 s).2 (atP s))=_;rw[e7,show atP s=t from hte.symm]
 have ti8:Zq S8 29256:=hS8 ▸ Yta ti7 R7 ht;obtain⟨a8,b8,c8,d8,g8⟩:=Ywz S7 R7 t;rw[← hS8]at a8 b8 c8 d8 g8;have ro8:R8.left=lvW S5∧R8.done=[]∧(∀z∈R8.out,0≤z∧z<((128:Nat):Int))∧(∀z∈R8.started,0≤z∧z<((128:Nat):Int))∧R8.out.length≤300∧R8.started.length≤300:=by
  rw[hR8];unfold enR;split
  ·have hx:=(Ynm ti7).1;have hwl:=(en_w ti7).1
   obtain⟨u1,u2,u3,u4⟩:=st_b (p:=S7.par) (t:=t) (n:=128) (by decide) (enW S7) (x:=⟨(enX S7).ms,S7.dues,S7.exit,R7.out,R7.started⟩) (fun z hz=>by
    have h1:=Vw hx.e (List.mem_of_mem_take hz);have h2:(enX S7).ms.length≤128:=hx.l1
    omega) (by rw[ro7.1];exact ob5) (fun z hz=>by rw[ro7.2.2.1]at hz;cases hz) (enW S7).length (Nat.le_refl _)
   simp only[ro7.1,ro7.2.2.1,List.length_nil]at u3 u4;refine⟨ro7.2.1,ro7.2.2.2,u1,u2,?_,?_⟩
   ·show (enY S7 R7 t).out.length≤300;have:(enY S7 R7 t).out.length≤R5.out.length+(enW S7).length:=by rw[enY,ro7.1,ro7.2.2.1];exact u3
    omega
   ·show (enY S7 R7 t).go.length≤300;have:(enY S7 R7 t).go.length≤0+(enW S7).length:=by rw[enY,ro7.1,ro7.2.2.1];exact u4
    omega
  ·exact⟨ro7.2.1,ro7.2.2.2,by rw[ro7.1];exact ob5,(fun z hz=>by rw[ro7.2.2.1]at hz;cases hz),by rw[ro7.1];omega,by rw[ro7.2.2.1];simp⟩
 obtain⟨S9,hS9⟩:∃x,x=moS S8 R8:=⟨_,rfl⟩
 obtain⟨R9,hR9⟩:∃x,x=moR S8 R8:=⟨_,rfl⟩
 have e9:tk9 s=(S9,R9):=by rw[hS9,hR9];show (moS (tk8 s).1 (tk8 s).2,moR (tk8 s).1 (tk8 s).2)=_;rw[e8]
 have ti9:Zq S9 29256:=hS9 ▸ Yhv ti8 R8 (Nat.le_refl _);rw[e8]at hA8;simp only at hA8;refine Ya func25 rfl (rs:=[_,_,_]) rfl rfl ZX (by kernel_rfl) rfl rfl fun ap nd=>?_;clear ap nd;refine xx ?_;refine Z0 fun b1 nb1 zb1=>?_;(try simp only[ZT]at nb1);refine xx ?_;refine Z0 fun b2 nb2 zb2=>?_;(try simp only[ZT]at nb2);have n21:=nb2.1;refine xx ?_;refine Z0 fun b3 nb3 zb3=>?_;(try simp only[ZT]at nb3);have n32:=nb3.1;have n31:=nb3.2.1;clear nb1 nb2 nb3;refine xx ?_;refine Vz (s:=s) ⟨.slice pa s.purses.length pc,.slice ma s.members.length mc,.slice ea s.entry.length ec,.slice xa s.exit.length xc,.slice oa s.pool.length oc,.slice da s.dues.length dc,.slice ta s.motions.length tc,.slice ka s.marks.length kc,.slice ra s.ring.length rc⟩ hs fewS ?_;rw[hf];refine xx ?_;refine Yj (.tk 2 (.tk 5 (.tk 6 (.tkl 0 (.tkl 3 (.tk 4 (.tkl 7 (.o1 1 (.tk 8 (.o1 9 (.tk 10 (.fin)) (.nil))) (.nil))))))))) (by kernel_rfl) (by kernel_rfl) _ (Za.refl _ _) ?_;refine xx ?_;refine Zrb (s:=s) ⟨.slice pa s.purses.length pc,.slice ma s.members.length mc,.slice ea s.entry.length ec,.slice xa s.exit.length xc,.slice oa s.pool.length oc,.slice da s.dues.length dc,.slice ta s.motions.length tc,.slice ka s.marks.length kc,.slice ra s.ring.length rc⟩ hs few fun h1 u om oe ox le1 okm oke okx i1=>?_
 first
 | refine xkp ((Za.oent _ _ _ _ _ _).trans ((Za.oent _ _ _ _ _ _).trans ((Za.oent _ _ _ _ _ _).trans (Za.forget le1)))) ?_
 | skip
 refine xx ?_;refine Z0 fun b5 nb5 zb5=>?_;(try simp only[ZT]at nb5);have n5:=Yr (Yr (Yr nb5));simp only[ZT]at n5;have n53:=n5.1;have n52:=n5.2.1;have n51:=n5.2.2.1;clear nb5 n5;obtain⟨up,um,ue,ux,uo,ud,ut,uk,ur⟩:=u;obtain⟨iok,ip,_,_,_,_,io,ioo,idd,iddo,it,ik,ir⟩:=i1;simp only[Ymm]at ip io ioo idd iddo it ik ir;obtain⟨upa,upc,rfl,_⟩:=ip.open;obtain⟨uoa,uoc,rfl,_⟩:=io.open;obtain⟨uda,udc,rfl,_⟩:=idd.open;obtain⟨uka,ukc,rfl,_⟩:=ik.open;obtain⟨uq,it1,it2,it3⟩:=it;obtain⟨uta,utc,rfl,_⟩:=it1.open;obtain⟨uqr,ir1,ir2⟩:=ir;obtain⟨ura,urc,rfl,_⟩:=ir1.open;have hqm:uq.length=s.motions.length:=by rw[← it2,List.length_map]
 have hqr:uqr.length=s.ring.length:=by rw[← ir2,WZ]
 rw[hqm]at it1 ⊢;rw[hqr]at ir1 ⊢;refine xx ?_;refine xkp ((Za.tail _ _ _).trans ((Za.oent _ _ _ _ _ _).trans ((Za.oent _ _ _ _ _ _).trans ((Za.oent _ _ _ _ _ _).trans (Za.forget le1))))) ?_;refine xx ?_;obtain⟨N,hN⟩:∃N,N=s.members.length:=⟨_,rfl⟩
 obtain⟨V0,hV0⟩:∃V0:SV,V0=⟨.slice upa s.purses.length upc,ovs om s.members.length,ovs oe s.entry.length,ovs ox s.exit.length,.slice uoa s.pool.length uoc,.slice uda s.dues.length udc,.slice uta s.motions.length utc,.slice uka s.marks.length ukc,.slice ura s.ring.length urc⟩:=⟨_,rfl⟩
 refine Zb.fin (Zb.weaken (Za.perm _ Yzj) (Zsc (s:=s) (v:=⟨.slice upa s.purses.length upc,ovs om s.members.length,ovs oe s.entry.length,ovs ox s.exit.length,.slice uoa s.pool.length uoc,.slice uda s.dues.length udc,.slice uta s.motions.length utc,.slice uka s.marks.length ukc,.slice ura s.ring.length urc⟩) (r:=r0P s) (q:=⟨.slice none 0 0,.slice none 0 0,.slice none 0 0,.slice none 0 0⟩) (w:=s.par.wait) (om:=om) ti hA1 ik rfl okm fun h2 le2=>ZP ?_));rw[← hS2,← hR2];refine xx ?_;have one:∀(a b c d e:Value),a.oneCell'=true→b.oneCell'=true→c.oneCell'=true→d.oneCell'=true→e.oneCell'=true→∀(n1 n2 n3:Nat) (f:Value),f.oneCell'=true→Yin ⟨a,ovs om n1,ovs oe n2,ovs ox n3,b,c,d,e,f⟩:=fun a b c d e ha hb hc hd he n1 n2 n3 f hf=>⟨ha,oneO _ _,oneO _ _,oneO _ _,hb,hc,hd,he,hf⟩
 have p2:S2.purses=s.purses:=by rw[hS2];rfl
 refine Zzh (s:=S2) (v:=⟨.slice upa s.purses.length upc,ovs om s.members.length,ovs oe s.entry.length,ovs ox s.exit.length,.slice uoa s.pool.length uoc,.slice uda s.dues.length udc,.slice uta s.motions.length utc,.slice uka s.marks.length ukc,.slice ura s.ring.length urc⟩) (om:=om) ti2 ra2 rp2 (one _ _ _ _ _ rfl rfl rfl rfl rfl _ _ _ _ rfl) (by rw[p2];exact ip.up le2) (by rw[f2.k];exact ik.up le2) (by rw[f2.l]) (by rw[f2.l];exact okm) fun h3 pv3 le3 i3=>?_;rw[← hS3]at i3;rw[← hS3,← hR3];obtain⟨pa3,pc3,rfl,_⟩:=i3.open;have le13:=le2.trans le3;refine xx ?_;refine Zql (s:=S3) (v:=⟨.slice pa3 S3.purses.length pc3,ovs om s.members.length,ovs oe s.entry.length,ovs ox s.exit.length,.slice uoa s.pool.length uoc,.slice uda s.dues.length udc,.slice uta s.motions.length utc,.slice uka s.marks.length ukc,.slice ura s.ring.length urc⟩) (om:=om) ti3 rb3 rf3 (one _ _ _ _ _ rfl rfl rfl rfl rfl _ _ _ _ rfl) (by rw[f3.k];exact ik.up le13) (by rw[f3.l]) (by rw[f3.l];exact okm) ?_;rw[← hS4,← hR4,← x4];refine xx ?_;refine Zb.fin (Zb.weaken (Za.perm _ Yfs) (Zfe (s:=S4) (v:=⟨.slice pa3 S3.purses.length pc3,ovs om s.members.length,ovs oe s.entry.length,ovs ox S4.exit.length,.slice uoa s.pool.length uoc,.slice uda s.dues.length udc,.slice uta s.motions.length utc,.slice uka s.marks.length ukc,.slice ura s.ring.length urc⟩) (om:=om) (oo:=none) (ox:=ox) ti4 (by decide) (by rw[d4];exact idd.up le13) (by rw[f4.l]) (by rw[f4.l];exact okm) hw rfl (by rw[x4];exact okx) rfl (by rw[ro4.1];rfl) (by rw[ro4.1];simp) fun h5 dv5 oo5 le5 i5 ok5=>ZP ?_));rw[f4.ep,← hte,← hS5]at i5;rw[← hR5]at ok5;rw[f4.ep,← hte,← hS5,← hR5];obtain⟨da5,dc5,rfl,_⟩:=i5.open;have le15:=le13.trans le5;have okx5:okO ox S5.exit.length:=Zpj okx (by rw[hS5,← x4];exact Zfk _ _ _ _);refine xx ?_
 refine Zb.fin (Zb.weaken (Za.perm _ Yry) (Ztj (s:=S5) (v:=⟨.slice pa3 S3.purses.length pc3,ovs om s.members.length,ovs oe s.entry.length,ovs ox S5.exit.length,.slice uoa s.pool.length uoc,.slice da5 S5.dues.length dc5,.slice uta s.motions.length utc,.slice uka s.marks.length ukc,.slice ura s.ring.length urc⟩) (om:=om) (ox:=ox) ti5 (by decide) hw (by rw[p5,p4];exact i3.up le5) i5 (by rw[f5.l]) (by rw[f5.l];exact okm) rfl okx5 fun h7 xo pv7 dv7 lv7 le7 okx7 i7p i7d i7l=>ZP ?_));rw[f5.ep,← hte,← hS7]at okx7 i7p i7d;rw[f5.ep,← hte,← hS7,← hR7];obtain⟨pa7,pc7,rfl,_⟩:=i7p.open;obtain⟨da7,dc7,rfl,_⟩:=i7d.open;obtain⟨la7,lc7,rfl,_⟩:=i7l.open;have le17:=le15.trans le7;refine xx ?_;rw[← f7.e,← ro7.1];refine Zb.fin (Zb.weaken (Za.perm _ Yyf) (Zqt (s:=S7) (v:=⟨.slice pa7 S7.purses.length pc7,ovs om s.members.length,ovs oe S7.entry.length,ovs xo S7.exit.length,.slice uoa s.pool.length uoc,.slice da7 S7.dues.length dc7,.slice uta s.motions.length utc,.slice uka s.marks.length ukc,.slice ura s.ring.length urc⟩) (om:=om) (oe:=oe) (os:=none) (oo:=oo5) (ox:=xo) (r:=R7) ti7 (by decide) hw (by rw[ro7.1];omega) (by rw[ro7.2.2.1];simp) i7p i7d (by rw[f7.o];exact io.up le17) (by rw[f7.l]) (by rw[f7.l];exact okm) rfl (by rw[f7.e];exact oke) rfl okx7 rfl (by rw[ro7.1];exact ok5) rfl (by rw[ro7.2.2.1];rfl) fun h8 pv8 dv8 ov8 om8 oe8 os8 oo8 le8 i8p i8d i8o okm8 oke8 oks8 oko8 okx8=>ZP ?_));rw[f7.ep,← hte,← hS8]at i8p i8d i8o okm8 oke8 okx8;rw[f7.ep,← hte,← hR8]at oks8 oko8;rw[f7.ep,← hte,← hS8,← hR8];obtain⟨pa8,pc8,rfl,_⟩:=i8p.open;obtain⟨da8,dc8,rfl,_⟩:=i8d.open;obtain⟨oa8,oc8,rfl,_⟩:=i8o.open;have le18:=le17.trans le8;refine xx ?_
 refine Zb.fin (Zb.weaken (Za.perm _ Yfs) (Zb.apn (Ztk (s:=S8) (v:=⟨.slice pa8 S8.purses.length pc8,ovs om8 S8.members.length,ovs oe8 S8.entry.length,ovs xo S8.exit.length,.slice oa8 S8.pool.length oc8,.slice da8 S8.dues.length dc8,.slice uta s.motions.length utc,.slice uka s.marks.length ukc,.slice ura s.ring.length urc⟩) (om:=om8) (od:=none) (r:=R8) ti8 hA8 (by rw[ro8.2.1];simp) i8p ⟨uq,it1.up le18,it2.trans (g8.trans f7.t).symm,fun x hx=>(it3 x hx).up le18⟩ rfl okm8 rfl (by rw[ro8.2.1];rfl) fun h9 pv9 tv9 od9 le9 i9p i9t okd9 ap nd=>⟨_,_,Za.perm _ Ypb,?_⟩)));have hb5:h9 b5=noC:=ap.1;obtain⟨hb3,hb2,hb1,_⟩:=Ap.oent (Ap.oent (Ap.oent (Ap.oent (Ap.oent (Ap.oent ap.2)))));simp only at hb3 hb2 hb1;clear ap nd;rw[← hS9]at i9p i9t;rw[← hR9]at okd9;rw[← hS9,← hR9];have m9:S9.members=S8.members:=by rw[hS9];rfl
 have en9:S9.entry=S8.entry:=by rw[hS9];rfl
 have x9:S9.exit=S8.exit:=by rw[hS9];rfl
 have d9:S9.dues=S8.dues:=by rw[hS9];rfl
 have o9:S9.pool=S8.pool:=by rw[hS9];rfl
 have k9:S9.marks=s.marks:=by rw[hS9];exact c8.trans f7.k
 have r9:S9.ring=s.ring:=by rw[hS9];exact d8.trans f7.r
 have ep9:S9.ep=s.ep:=by rw[hS9];exact b8.trans f7.ep
 have ro9:R9.out=R8.out∧R9.left=R8.left∧R9.started=R8.started:=by rw[hR9];exact⟨rfl,rfl,rfl⟩
 have dn9:(∀z∈R9.done,0≤z∧z<((128:Nat):Int)):=by
  rw[hR9];have hmn:=ti8.mn;have hL:(moL S8).length=S8.motions.length:=List.length_map _;exact Yrw (by decide) (fun z hz=>by have:=(Zqf (s:=S8) R8).2 z hz;omega) (fun z hz=>by rw[ro8.2.1]at hz;cases hz) _ (Nat.le_refl _)
 rw[← m9]at okm8;rw[← en9]at oke8;rw[← x9]at okx8;rw[← ro9.1]at oko8;rw[← ro9.2.2]at oks8;rw[← m9,← en9,← x9,← ro9.1,← ro9.2.2];obtain⟨pa9,pc9,rfl,_⟩:=i9p.open;obtain⟨q9,i9t1,i9t2,i9t3⟩:=i9t;obtain⟨ta9,tc9,rfl,_⟩:=i9t1.open;have le19:=le18.trans le9;have i8d9:Zh YB 3 h9 (.slice da8 S8.dues.length dc8) S9.dues:=by rw[d9];exact i8d.up le9
 have i8o9:Zh Ua 4 h9 (.slice oa8 S8.pool.length oc8) S9.pool:=by rw[o9];exact i8o.up le9
 refine xx ?_;refine Yj (.tk 0 (.tk 1 (.tk 2 (.tk 3 (.tk 5 (.tkl 4 (.tkl 6 (.tk 7 (.fin))))))))) (by kernel_rfl) (by kernel_rfl) _ (Za.refl _ _) ?_;simp -dsimp -implicitDefEqProofs (disch:=first|with_reducible assumption|omega) [go_sem,Yhu];refine Wf (fun c=>?_) (fun c=>?_)
 ·have e10:Vm s=(S9,R9):=by rw[Vm,e9,if_pos c]
  have eT:YP s=seS S9:=by rw[YP,e10]
  have eR:Yz s=R9:=by rw[Yz,e10]
  have tiE:Zq S9 29400:=ti9.mono (by decide);have iP:=i9p;have iD:=i8d9;have kE:=k9;have rE:=r9;have mE:S9.motions=S9.motions:=rfl;have oE:S9.pool=S9.pool:=rfl;have nE:S9.entry=S9.entry:=rfl;have okmE:=okm8;have okxE:=okx8;have okoE:=oko8;have obE:∀z∈R9.out,0≤z∧z<((128:Nat):Int):=by rw[ro9.1];exact ro8.2.2.1
  have olE:R9.out.length≤1000:=by rw[ro9.1];omega
  have leE:=le19;have leE9:=PH.le_refl h9;have lE:R9.left=lvW S5∧R9.started=R9.started∧R9.done=R9.done:=⟨ro9.2.1.trans ro8.1,rfl,rfl⟩
  refine xx ?_;have ml10:S9.members.length≤128:=tiE.ml;have lenS:(seS S9).members.length=S9.members.length:=Wy _ _ _;refine Zb.fin (Zb.weaken (Za.perm _ Yho) (Zb.apn (Zcj (s:=S9) (v:=⟨.slice pa9 S9.purses.length pc9,ovs om8 S9.members.length,ovs oe8 S9.entry.length,ovs xo S9.exit.length,.slice oa8 S8.pool.length oc8,.slice da8 S8.dues.length dc8,.slice ta9 q9.length tc9,.slice uka s.marks.length ukc,.slice ura s.ring.length urc⟩) (om:=om8) (r:=R9) (q:=⟨ovs oo8 R9.out.length,.slice la7 (lvW S5).length lc7,ovs os8 R9.started.length,ovs od9 R9.done.length⟩) tiE (by rw[kE];exact ik.up leE) ⟨uqr,ir1.up leE,ir2.trans rE.symm⟩ (by rw[rE];exact few.r) (by rw[rE];exact few.b) (by rw[kE];exact few.k) rfl okmE fun hz kvz rvz lez iz1 iz2 ap nd=>?_)));obtain⟨kza,kzc,rfl,_⟩:=iz1.open;obtain⟨qz,z1,z2⟩:=iz2;obtain⟨rza,rzc,rfl,_⟩:=z1.open;have ap:=Ap.perm Zex ap;have nd:=Nd.perm Zex nd;have eln:=Uu tiE.en;have elx:=Uu tiE.ex;obtain⟨g1,l1,dr1,sl1,ap,nd⟩:=UH (n:=(seS S9).members.length) (by rw[lenS];exact okmE) (Z1 Yf _) (by omega) ap nd;obtain⟨g2,l2,dr2,sl2,ap,nd⟩:=UH (n:=R9.out.length) (sz:=1) okoE (by simp) (by omega) ap nd;obtain⟨g3,l3,dr3,sl3,ap,nd⟩:=UH (n:=S9.exit.length) (sz:=1) okxE (by simp) (by omega) ap nd;obtain⟨g4,l4,dr4,sl4,ap,nd⟩:=UH (n:=R9.done.length) (sz:=1) okd9 (by simp) (Gy okd9) ap nd;obtain⟨g5,l5,dr5,sl5,ap,nd⟩:=UH (n:=S9.entry.length) (sz:=1) oke8 (by simp) (Gy oke8) ap nd;obtain⟨g6,l6,dr6,sl6,ap,nd⟩:=UH (n:=R9.started.length) (sz:=1) oks8 (by simp) (Gy oks8) ap nd;refine⟨_,_,(Za.perm _ Zex).trans (dr1.trans (dr2.trans (dr3.trans (dr4.trans (dr5.trans dr6))))),?_⟩;obtain⟨hc5,hc3,hc2,hc1,_⟩:=ap;simp only at hc5 hc3 hc2 hc1;clear nd dr1 dr2 dr3 dr4 dr5 dr6;have m56:=l5.trans l6;have m46:=l4.trans m56;have m36:=l3.trans m46;have m26:=l2.trans m36;have mz6:=lez.trans (l1.trans m26)
  have hIS:Zo g6 ⟨.slice pa9 S9.purses.length pc9,ovs om8 S9.members.length,ovs oe8 S9.entry.length,ovs xo S9.exit.length,.slice oa8 S8.pool.length oc8,.slice da8 S8.dues.length dc8,.slice ta9 q9.length tc9,.slice kza (List.replicate 16 (0:Int)).length kzc,.slice rza qz.length rzc⟩ (YP s):=by
   rw[eT];have hn:=tiE.ok.n;have hp1:=tiE.ep;simp only[List.forall_mem_cons]at hn;refine⟨⟨tiE.ok.p,tiE.ok.u,?_⟩,iP.up mz6,?_,?_,?_,?_,?_,fun x hx=>(tiE.oo x hx).1,iD.up mz6,fun x hx=>(tiE.dd x hx).1,⟨q9,i9t1.up (leE9.trans mz6),i9t2.trans mE.symm,fun x hx=>(i9t3 x hx).up (leE9.trans mz6)⟩,iz1.up (l1.trans m26),?_⟩
   ·show ∀z∈[S9.ep+1,S9.calm],_;simp only[List.forall_mem_cons];exact⟨by omega,hn.2⟩
   ·have:=Zh.pub (f:=Ym) (w:=6) (l:=(seS S9).members) (o:=om8) Yf (sl1.up m26);rw[lenS]at this;exact this
   ·exact Zio Zg (fun m hm=>Zmr tiE.ok.p tiE.r hm) tiE.be.m _ (Nat.le_refl _)
   ·exact Jk (st:=1) (by show Jv S9.members S9.entry 1;exact tiE.en) ml10 (by show Sl _ _ S9.entry.length 1 (S9.entry.map _);rw[nE];exact sl5.up l6)
   ·exact Jk (st:=3) (by show Jv S9.members S9.exit 3;exact tiE.ex) ml10 (sl3.up m46)
   ·show Zh Ua 4 g6 _ S9.pool;rw[oE];exact i8o9.up (leE9.trans mz6)
   ·exact⟨qz,z1.up (l1.trans m26),z2⟩
  have hRP:Zw g6 ⟨ovs oo8 R9.out.length,.slice la7 (lvW S5).length lc7,ovs os8 R9.started.length,ovs od9 R9.done.length⟩ (Yz s):=by
   rw[eR];refine⟨Yof (sl2.up m36) fun z hz=>by have:=obE z hz;omega,by rw[lE.1];exact i7l.up ((le8.trans (le9.trans leE9)).trans mz6),?_,?_⟩
   ·rw[lE.2.1];exact Yof sl6 fun z hz=>by have:=ro8.2.2.2.1 z (by rw[← ro9.2.2];exact hz);omega
   ·rw[lE.2.2];exact Yof (sl4.up m56) fun z hz=>by have:=dn9 z hz;omega
  have hk:=hk g6 _ _ (le1.trans (leE.trans mz6)) hIS hRP;rw[eT,eR]at hk;refine xx ?_;refine Yj (.tk 0 (.tk 1 (.tk 2 (.tk 4 (.tk 5 (.tk 6 (.tkl 3 (.o1 7 (.o2 8 (.o2 9 (.tk 10 (.fin)) (.nil)) (.nil)) (.o2 8 (.o1 7 (.o2 9 (.tk 10 (.fin)) (.nil)) (.nil)) (.nil)))))))))) (by kernel_rfl) (by kernel_rfl) _ (Za.refl _ _) ?_
  repeat' first
   | with_reducible refine Y0 ?_ ?_
   | simp -dsimp -implicitDefEqProofs (disch:=first|with_reducible assumption|omega) [go_sem]
   | fail
  all_goals exact ZO (ZO (ZO (ZO (ZP hk))))
 ·have e10:Vm s=Zti t (ajS S9,R9):=by rw[Vm,e9,if_neg c,show atP s=t from hte.symm]
  refine xx ?_;refine Zb.fin (Zb.weaken (Za.perm _ permT5) (Zmj (s:=S9) (v:=⟨.slice pa9 S9.purses.length pc9,ovs om8 S9.members.length,ovs oe8 S9.entry.length,ovs xo S9.exit.length,.slice oa8 S8.pool.length oc8,.slice da8 S8.dues.length dc8,.slice ta9 q9.length tc9,.slice uka s.marks.length ukc,.slice ura s.ring.length urc⟩) (om:=om8) (oo:=oo8) (ox:=xo) (r:=R9) (q:=⟨ovs oo8 R9.out.length,.slice la7 (lvW S5).length lc7,ovs os8 R9.started.length,ovs od9 R9.done.length⟩) ti9 (by decide) i9p i8d9 rfl okm8 hw rfl okx8 rfl oko8 (by rw[ro9.1];omega) fun h10 pv10 d10 oo10 le10 i10p i10d ok10=>⟨_,_,Za.perm _ permT5.symm,?_⟩));rw[ep9,← hte]at i10d ⊢;have tiE:Zq (ejS (ajS S9) t (ajS S9).members.length) 29400:=by
   have h1:Zq (ajS S9) 29256:=Zue ti9 (Nat.le_refl _);exact(Zdq h1 ht (Nat.le_refl _)).mono (by have:=h1.ml;omega)
  have l10:(ejS (ajS S9) t (ajS S9).members.length).members.length=S9.members.length:=(Zrg (ajS S9) t).l.trans (UB S9.par (S9.members,S9.purses) S9.members.length).1;have x10:(ejS (ajS S9) t (ajS S9).members.length).exit.length≤S9.exit.length:=Zfk _ _ _ _;have ou10:(ejR (ajS S9) R9 (ajS S9).members.length).out=R9.out++ouN (ajS S9).par (ajS S9).members (ajS S9).members.length:=rfl;have la10:(ajS S9).members.length≤128:=by rw[show (ajS S9).members.length=S9.members.length from(UB S9.par (S9.members,S9.purses) S9.members.length).1];exact ti9.ml
  obtain⟨S10,hS10⟩:∃x,x=ejS (ajS S9) t (ajS S9).members.length:=⟨_,rfl⟩
  obtain⟨R10,hR10⟩:∃x,x=ejR (ajS S9) R9 (ajS S9).members.length:=⟨_,rfl⟩
  rw[← hS10]at i10d tiE l10 x10;rw[← hR10]at ok10 ou10;rw[← hS10,← hR10];have eT:YP s=seS S10:=by rw[YP,e10,hS10];rfl
  have eR:Yz s=R10:=by rw[Yz,e10,hR10];rfl
  have eP10:(ajS S9).purses=S10.purses:=by rw[hS10];rfl
  rw[eP10]at i10p;obtain⟨pa10,pc10,rfl,_⟩:=i10p.open;obtain⟨da10,dc10,rfl,_⟩:=i10d.open;have iP:=i10p;have iD:=i10d;have kE:S10.marks=s.marks:=by rw[hS10];exact k9
  have rE:S10.ring=s.ring:=by rw[hS10];exact r9
  have mE:S10.motions=S9.motions:=by rw[hS10];rfl
  have oE:S10.pool=S9.pool:=by rw[hS10];rfl
  have nE:S10.entry=S9.entry:=by rw[hS10];rfl
  have okmE:okO om8 S10.members.length:=by rw[l10];exact okm8
  have okxE:okO xo S10.exit.length:=Zpj okx8 x10;have okoE:=ok10;have obE:∀z∈R10.out,0≤z∧z<((128:Nat):Int):=fun z hz=>by
   rw[ou10]at hz;rcases List.mem_append.1 hz with hz|hz
   ·rw[ro9.1]at hz;exact ro8.2.2.1 z hz
   ·have:=Wfg _ _ _ z hz;omega
  have olE:R10.out.length≤1000:=by
   rw[ou10,List.length_append,ro9.1];have:=Zgr (ajS S9).par (ajS S9).members (ajS S9).members.length;omega
  have leE:=le19.trans le10;have leE9:=le10;have lE:R10.left=lvW S5∧R10.started=R9.started∧R10.done=R9.done:=by rw[hR10];exact⟨ro9.2.1.trans ro8.1,rfl,rfl⟩
  refine xx ?_;have ml10:S10.members.length≤128:=tiE.ml;have lenS:(seS S10).members.length=S10.members.length:=Wy _ _ _;refine Zb.fin (Zb.weaken (Za.perm _ Yho) (Zb.apn (Zcj (s:=S10) (v:=⟨.slice pa10 S10.purses.length pc10,ovs om8 S9.members.length,ovs oe8 S9.entry.length,ovs xo S10.exit.length,.slice oa8 S8.pool.length oc8,.slice da10 S10.dues.length dc10,.slice ta9 q9.length tc9,.slice uka s.marks.length ukc,.slice ura s.ring.length urc⟩) (om:=om8) (r:=R10) (q:=⟨ovs oo10 R10.out.length,.slice la7 (lvW S5).length lc7,ovs os8 R9.started.length,ovs od9 R9.done.length⟩) tiE (by rw[kE];exact ik.up leE) ⟨uqr,ir1.up leE,ir2.trans rE.symm⟩ (by rw[rE];exact few.r) (by rw[rE];exact few.b) (by rw[kE];exact few.k) (by rw[l10]) okmE fun hz kvz rvz lez iz1 iz2 ap nd=>?_)));obtain⟨kza,kzc,rfl,_⟩:=iz1.open;obtain⟨qz,z1,z2⟩:=iz2;obtain⟨rza,rzc,rfl,_⟩:=z1.open;have ap:=Ap.perm Zex ap;have nd:=Nd.perm Zex nd;have eln:=Uu tiE.en;have elx:=Uu tiE.ex;obtain⟨g1,l1,dr1,sl1,ap,nd⟩:=UH (n:=(seS S10).members.length) (by rw[lenS];exact okmE) (Z1 Yf _) (by omega) ap nd;obtain⟨g2,l2,dr2,sl2,ap,nd⟩:=UH (n:=R10.out.length) (sz:=1) okoE (by simp) (by omega) ap nd;obtain⟨g3,l3,dr3,sl3,ap,nd⟩:=UH (n:=S10.exit.length) (sz:=1) okxE (by simp) (by omega) ap nd;obtain⟨g4,l4,dr4,sl4,ap,nd⟩:=UH (n:=R9.done.length) (sz:=1) okd9 (by simp) (Gy okd9) ap nd;obtain⟨g5,l5,dr5,sl5,ap,nd⟩:=UH (n:=S9.entry.length) (sz:=1) oke8 (by simp) (Gy oke8) ap nd;obtain⟨g6,l6,dr6,sl6,ap,nd⟩:=UH (n:=R9.started.length) (sz:=1) oks8 (by simp) (Gy oks8) ap nd;refine⟨_,_,(Za.perm _ Zex).trans (dr1.trans (dr2.trans (dr3.trans (dr4.trans (dr5.trans dr6))))),?_⟩;obtain⟨hc5,hc3,hc2,hc1,_⟩:=ap;simp only at hc5 hc3 hc2 hc1;clear nd dr1 dr2 dr3 dr4 dr5 dr6;have m56:=l5.trans l6;have m46:=l4.trans m56;have m36:=l3.trans m46;have m26:=l2.trans m36;have mz6:=lez.trans (l1.trans m26)
  have hIS:Zo g6 ⟨.slice pa10 S10.purses.length pc10,ovs om8 S9.members.length,ovs oe8 S9.entry.length,ovs xo S10.exit.length,.slice oa8 S8.pool.length oc8,.slice da10 S10.dues.length dc10,.slice ta9 q9.length tc9,.slice kza (List.replicate 16 (0:Int)).length kzc,.slice rza qz.length rzc⟩ (YP s):=by
   rw[eT];have hn:=tiE.ok.n;have hp1:=tiE.ep;simp only[List.forall_mem_cons]at hn;refine⟨⟨tiE.ok.p,tiE.ok.u,?_⟩,iP.up mz6,?_,?_,?_,?_,?_,fun x hx=>(tiE.oo x hx).1,iD.up mz6,fun x hx=>(tiE.dd x hx).1,⟨q9,i9t1.up (leE9.trans mz6),i9t2.trans mE.symm,fun x hx=>(i9t3 x hx).up (leE9.trans mz6)⟩,iz1.up (l1.trans m26),?_⟩
   ·show ∀z∈[S10.ep+1,S10.calm],_;simp only[List.forall_mem_cons];exact⟨by omega,hn.2⟩
   ·have:=Zh.pub (f:=Ym) (w:=6) (l:=(seS S10).members) (o:=om8) Yf (sl1.up m26);rw[lenS]at this;exact(by rw[l10]at this;exact this)
   ·exact Zio Zg (fun m hm=>Zmr tiE.ok.p tiE.r hm) tiE.be.m _ (Nat.le_refl _)
   ·exact Jk (st:=1) (by show Jv S10.members S10.entry 1;exact tiE.en) ml10 (by show Sl _ _ S10.entry.length 1 (S10.entry.map _);rw[nE];exact sl5.up l6)
   ·exact Jk (st:=3) (by show Jv S10.members S10.exit 3;exact tiE.ex) ml10 (sl3.up m46)
   ·show Zh Ua 4 g6 _ S10.pool;rw[oE];exact i8o9.up (leE9.trans mz6)
   ·exact⟨qz,z1.up (l1.trans m26),z2⟩
  have hRP:Zw g6 ⟨ovs oo10 R10.out.length,.slice la7 (lvW S5).length lc7,ovs os8 R9.started.length,ovs od9 R9.done.length⟩ (Yz s):=by
   rw[eR];refine⟨Yof (sl2.up m36) fun z hz=>by have:=obE z hz;omega,by rw[lE.1];exact i7l.up ((le8.trans (le9.trans leE9)).trans mz6),?_,?_⟩
   ·rw[lE.2.1];exact Yof sl6 fun z hz=>by have:=ro8.2.2.2.1 z (by rw[← ro9.2.2];exact hz);omega
   ·rw[lE.2.2];exact Yof (sl4.up m56) fun z hz=>by have:=dn9 z hz;omega
  have hk:=hk g6 _ _ (le1.trans (leE.trans mz6)) hIS hRP;rw[eT,eR]at hk;refine xx ?_;refine Yj (.tk 0 (.tk 1 (.tk 2 (.tk 4 (.tk 5 (.tk 6 (.tkl 3 (.o1 7 (.o2 8 (.o2 9 (.tk 10 (.fin)) (.nil)) (.nil)) (.o2 8 (.o1 7 (.o2 9 (.tk 10 (.fin)) (.nil)) (.nil)) (.nil)))))))))) (by kernel_rfl) (by kernel_rfl) _ (Za.refl _ _) ?_
  repeat' first
   | with_reducible refine Y0 ?_ ?_
   | simp -dsimp -implicitDefEqProofs (disch:=first|with_reducible assumption|omega) [go_sem]
   | fail
  all_goals exact ZO (ZO (ZO (ZO (ZP hk))))
theorem Ymj {s:Ze}{D:Nat}(ti:Zq s D)(ms:∀m∈s.members,MI s.par m):Zq (tk7 s).1 (D+192)∧Fr s (tk7 s).1∧Zq (tk8 s).1 (D+256)∧(∀m∈(tk8 s).1.members,MI s.par m∧MF s.par m)∧(tk8 s).1.par=s.par∧(tk8 s).1.ep=s.ep∧(tk8 s).1.members.length≤128:=by
 have hpc:=Z6 ti.r;have hep:=ti.ep;have hml:=ti.ml;have hA:=GM ti.ml ms;have ht:0≤atP s∧atP s≤2147483647:=by unfold atP;omega
 have hact:0≤W6 s∧W6 s≤18446744073709551615:=by
  have:=VX (ks:=s.marks) ti.be.m;have e:W6 s=VA s.members:=rfl;omega
 have ti2:Zq (tk2 s).1 D:=Zqq ti;have f2:Fr s (tk2 s).1:=Yat s;have m2:∀m∈(tk2 s).1.members,MI s.par m:=wg_ms ti ms;have ra2:0≤(tk2 s).2.act∧(tk2 s).2.act≤18446744073709551615:=hact;obtain⟨S2,hS2⟩:∃x,x=(tk2 s).1:=⟨_,rfl⟩
 obtain⟨R2,hR2⟩:∃x,x=(tk2 s).2:=⟨_,rfl⟩
 have rb2:R2.burned=0:=by rw[hR2];rfl
 have e3:tk3 s=(mtS S2 R2,mtR S2 R2):=by rw[hS2,hR2];rfl
 rw[← hS2]at ti2 f2 m2;rw[← hR2]at ra2;have ti3:=Ydy ti2 ra2;have f3:=f2.next (Zzt S2 R2);have m3:∀m∈(mtS S2 R2).members,MI s.par m:=by
  rw[← f2.par]at m2 ⊢;exact Yuc ti2 ra2 m2 _ (Nat.le_refl _)
 have rb3:(mtR S2 R2).burned=0:=rb2;obtain⟨S3,hS3⟩:∃x,x=mtS S2 R2:=⟨_,rfl⟩
 obtain⟨R3,hR3⟩:∃x,x=mtR S2 R2:=⟨_,rfl⟩
 rw[← hS3]at ti3 f3 m3 e3;rw[← hR3]at rb3 e3;have e4:tk4 s=(fnS S3 R3,fnR S3 R3 S3.members.length):=by unfold tk4;rw[e3]
 have ti4:=Ycr ti3 rb3;have f4:=f3.next (Zys S3 R3);have m4:∀m∈(fnS S3 R3).members,MI s.par m:=by
  rw[← f3.par]at m3 ⊢;exact fn_ms ti3 R3 m3
 obtain⟨S4,hS4⟩:∃x,x=fnS S3 R3:=⟨_,rfl⟩
 rw[← hS4]at ti4 f4 m4 e4;have e5:(tk5 s).1=ejS S4 (atP s) S4.members.length:=by unfold tk5;rw[e4];rfl
 have ti5:=Zdq ti4 ht (Nat.le_refl S4.members.length);have f5:=f4.next (Zrg S4 (atP s));have m5:∀m∈(ejS S4 (atP s) S4.members.length).members,MI s.par m∧MF s.par m:=by
  rw[← f4.par]at m4 ⊢;exact Ysv ti4.r _ m4
 rw[← e5]at ti5 f5 m5;have l4:=f4.l;have ti7:Zq (tk7 s).1 (D+192):=(Yll ti5 ht).mono (by omega);have f7:Fr s (tk7 s).1:=f5.next (Yac (tk5 s).1 (atP s));have m7:∀m∈(tk7 s).1.members,MI s.par m∧MF s.par m:=by
  rw[← f5.par]at m5 ⊢;exact Yvg ti5.r (atP s) _ m5 _
 have ti8:Zq (tk8 s).1 (D+256):=Yta ti7 (tk7 s).2 ht;have m8:∀m∈(tk8 s).1.members,MI s.par m∧MF s.par m:=by
  rw[← f7.par]at m7 ⊢;exact en_ms ti7 (tk7 s).2 (atP s) m7
 obtain⟨a8,b8,_⟩:=Ywz (tk7 s).1 (tk7 s).2 (atP s);exact⟨ti7,f7,ti8,m8,a8.trans f7.par,b8.trans f7.ep,ti8.ml⟩
structure Rs (a b:Zf):Prop where
 ep:b.ep=a.ep
 mode:b.mode=a.mode
 quo:b.quo=a.quo
 pres:b.pres=a.pres
 act:b.act=a.act
 mint:b.mint=a.mint
 paid:b.paid=a.paid
 kept:b.kept=a.kept
theorem Rs.next {a b c:Zf}(h:Rs a b)(h2:Rs b c):Rs a c:=⟨h2.ep.trans h.ep,h2.mode.trans h.mode,h2.quo.trans h.quo,h2.pres.trans h.pres,h2.act.trans h.act,h2.mint.trans h.mint,h2.paid.trans h.paid,h2.kept.trans h.kept⟩
theorem rs7 (s:Ze):Rs (tk3 s).2 (tk7 s).2:=⟨rfl,rfl,rfl,rfl,rfl,rfl,rfl,rfl⟩
theorem rs8 (s:Ze):Rs (tk7 s).2 (tk8 s).2:=by
 show Rs _ (enR (tk7 s).1 (tk7 s).2 (atP s));unfold enR;split
 ·exact⟨rfl,rfl,rfl,rfl,rfl,rfl,rfl,rfl⟩
 ·exact⟨rfl,rfl,rfl,rfl,rfl,rfl,rfl,rfl⟩
theorem rs9 (s:Ze):Rs (tk8 s).2 (tk9 s).2:=⟨rfl,rfl,rfl,rfl,rfl,rfl,rfl,rfl⟩
theorem Wcm (s:Ze):Rs (tk9 s).2 (Yz s):=by
 unfold Yz Vm;split
 ·exact⟨rfl,rfl,rfl,rfl,rfl,rfl,rfl,rfl⟩
 ·exact⟨rfl,rfl,rfl,rfl,rfl,rfl,rfl,rfl⟩
theorem rsT (s:Ze):Rs (tk3 s).2 (Yz s):=(rs7 s).next ((rs8 s).next ((rs9 s).next (Wcm s)))
theorem Zff (s:Ze):(Yz s).ep=s.ep∧(Yz s).mode=V3 s∧(Yz s).quo=(Vx s.calm (JB s) (W6 s)).2∧(Yz s).pres=JB s∧(Yz s).act=W6 s ∧
  (Yz s).mint=mtN (wgS s) (wgR s (r0P s))∧(Yz s).paid=tot (mtP (wgS s) (wgR s (r0P s)))∧(Yz s).kept=mtN (wgS s) (wgR s (r0P s))-tot (mtP (wgS s) (wgR s (r0P s))):=by
 have h:=rsT s;refine⟨h.ep,h.mode,h.quo,h.pres,h.act,h.mint,?_,h.kept⟩;rw[h.paid];show (0:Int)+YK (mtP (wgS s) (wgR s (r0P s))) (mtW (wgS s)).length=_;have e:(mtP (wgS s) (wgR s (r0P s))).length=(mtW (wgS s)).length:=by rw[mtP,V9,mtL,List.length_map];rfl
 rw[tot,e];omega
theorem calm7 (s:Ze):(tk7 s).1.calm=(Vx s.calm (JB s) (W6 s)).1:=rfl
theorem Ylf (s:Ze)(r:Zf)(t:Int):(enS s r t).calm=s.calm:=by
 unfold enS;split<;>rfl
theorem Ykj (s:Ze)(r:Zf)(t:Int):(Zti t (ajS s,r)).1.calm=s.calm:=rfl
theorem Yip (s:Ze)(r:Zf):(moS s r).calm=s.calm:=rfl
theorem Yjv (s:Ze):(seS s).calm=s.calm:=rfl
theorem J0 (s:Ze):(YP s).calm=(Vx s.calm (JB s) (W6 s)).1:=by
 have e8:(tk8 s).1.calm=(Vx s.calm (JB s) (W6 s)).1:=(Ylf (tk7 s).1 (tk7 s).2 (atP s)).trans (calm7 s);have e9:(tk9 s).1.calm=(tk8 s).1.calm:=Yip (tk8 s).1 (tk8 s).2;have e10:(Vm s).1.calm=(tk9 s).1.calm:=by
  by_cases c:(tk9 s).1.par=s.par
  ·rw[Vm,if_pos c]
  ·rw[Vm,if_neg c];exact Ykj _ _ _
 have eS:(YP s).calm=(Vm s).1.calm:=Yjv (Vm s).1;rw[eS,e10,e9,e8]
theorem Zyw {s:Ze}{r:Zf}(hq:r.quo=false):∀k,k≤(moW s r).length→(moX s r k).par=s.par∧∀j,(gr Z5 (moX s r k).mo j).what=(gr Z5 (moL s) j).what
 | 0,_=>⟨rfl,fun _=>rfl⟩
 | k+1,hk=>by
  obtain⟨i1,i2⟩:=Zyw (s:=s) hq k (by omega);have hz:at0 (moW s r) k∈moW s r:=by rw[← Ye (by omega)];exact List.getElem_mem _
  have hz2:=hz;unfold moW Vd at hz2;obtain⟨i,hi,e⟩:=List.mem_map.1 hz2;have hr:=(List.mem_filter.1 hi).2;rw[hq]at hr;simp only[Zbw,Bool.and_eq_true,Bool.or_eq_true,decide_eq_true_eq,Bool.false_eq_true,false_or]at hr;have e2:(at0 (moW s r) k).toNat=i:=by
   have:at0 (moW s r) k=(i:Int):=e.symm;rw[this,Int.toNat_natCast]
  have eK:moX s r (k+1)=Zbm i (moX s r k):=by
   show Zbm (at0 (moW s r) k).toNat _=_;rw[e2];rfl
  have hw:=i2 i;rw[eK]
  constructor
  ·show (Wv (gr Z5 (moX s r k).mo i) (moX s r k)).par=_;unfold Wv;split
   ·exact i1
   ·split
    ·exact i1
    ·rename_i c3 c4;rcases hr.2.2 with c|c
     ·exact absurd (hw.trans c) c3
     ·exact absurd (hw.trans c) c4
  ·intro j;show (gr Z5 ((moX s r k).mo.set i (Ztg (gr Z5 (moX s r k).mo i) _)) j).what=_;by_cases hl:i<(moX s r k).mo.length
   ·rw[Zmn hl];split
    ·rename_i ej;subst ej;exact hw
    ·exact i2 j
   ·rw[List.set_eq_of_length_le (by omega)];exact i2 j
theorem Ybv {s:Ze}{D:Nat}(ti:Zq s D)(ms:∀m∈s.members,MI s.par m)(hq:(Yz s).quo=false):(Yz s).started=[]∧(YP s).pool=s.pool∧(YP s).members.length=s.members.length∧(YP s).par=s.par:=by
 obtain⟨ti7,f7,ti8,_⟩:=Ymj ti ms;have h9:=Wcm s;have q8:(tk8 s).2.quo=false:=by have:=(rs9 s).next (Wcm s);rw[← this.quo];exact hq
 have q7:(tk7 s).2.quo=false:=by rw[← (rs8 s).quo];exact q8
 have e8:tk8 s=tk7 s:=by
  show (enS (tk7 s).1 (tk7 s).2 (atP s),enR (tk7 s).1 (tk7 s).2 (atP s))=tk7 s;unfold enS enR;rw[q7];rfl
 have hp:=(Zyw (s:=(tk8 s).1) q8 _ (Nat.le_refl _)).1;have p9:(tk9 s).1.par=s.par:=by
  show (moX (tk8 s).1 (tk8 s).2 (moW (tk8 s).1 (tk8 s).2).length).par=_;rw[hp,e8];exact f7.par
 have e10:Vm s=tk9 s:=by rw[Vm,if_pos p9]
 have eS:YP s=seS (tk9 s).1:=by rw[YP,e10]
 have eR:Yz s=(tk9 s).2:=by rw[Yz,e10]
 refine⟨?_,?_,?_,?_⟩
 ·rw[eR];show (tk8 s).2.started=[];rw[e8];rfl
 ·rw[eS];show (tk8 s).1.pool=_;rw[e8];exact f7.o
 ·rw[eS];show (upN _ (tk9 s).1.members (tk9 s).1.members.length).length=_;rw[Wy];show (tk8 s).1.members.length=_;rw[e8];exact f7.l
 ·rw[eS];exact p9
def DuP (l:List Zi):Prop:=G0 l∧∀x∈l,(0≤x.at'∧x.at'≤2147483647)∧1≤x.amt
theorem Zlm {l:List Zi}(h:DuP l){d:Zi}(ht:0≤d.at'∧d.at'≤2147483647)(h0:0≤d.amt):DuP (JQ l d):=by
 refine⟨Ydw h.1 d,fun x hx=>?_⟩;by_cases c:d.amt=0
 ·rw[JQ,if_pos c]at hx;exact h.2 x hx
 ·rcases Zfq hx with hx|rfl | ⟨h1,rfl⟩
  ·exact h.2 x hx
  ·exact⟨ht,by omega⟩
  ·have h2:=h.2 _ (GG h1);refine⟨h2.1,?_⟩;show 1≤(gr ZV l (Zkp l d)).amt+d.amt;omega
theorem Ylk {l:List Zi}(h:DuP l)(q:Zi→Bool):DuP (l.filter q) :=
 ⟨h.1.sublist (List.filter_sublist.map Zdn),fun x hx=>h.2 x (List.mem_filter.1 hx).1⟩
theorem bal0 {m:Zc}(mo:Zg m):0≤m.bal:=(mo.u m.bal (by simp)).1
theorem Ygr {q:Zd}{cs:List Zc}(hm:∀m∈cs,Zg m){t:Int}(ht:0≤t∧t≤2147483647){ds:List Zi}(h:DuP ds):∀k,k≤cs.length→DuP (duN q cs t ds k)
 | 0,_=>h
 | k+1,hk=>by
  have ih:=Ygr (q:=q) hm ht h k (by omega);rw[duN];split
  ·exact Zlm ih ht (bal0 (hm _ (YA (z:=ZQ) (k:=k) (by omega))))
  ·exact ih
theorem Ygz {s:Ze}{D:Nat}(ti:Zq s D){t:Int}(ht:0≤t∧t≤2147483647)(h:DuP s.dues):∀k,k≤(lvW s).length→DuP (lvK t (lvW s) (s.members,s.dues) k).2
 | 0,_=>h
 | k+1,hk=>by
  have ih:=Ygz ti ht h k (by omega);have lv:=(Zyj ti ht (k:=k) (by omega)).1;show DuP (JQ (lvK t (lvW s) (s.members,s.dues) k).2 (Ju t (gr ZQ (lvK t (lvW s) (s.members,s.dues) k).1 (at0 (lvW s) k).toNat)));refine Zlm ih ht ?_;have hw:=(Wav ti).2.2 (at0 (lvW s) k) (by rw[← Ye (by omega)];exact List.getElem_mem _);have l1:=lv.l1;exact bal0 (lv.m _ (YA (z:=ZQ) (k:=(at0 (lvW s) k).toNat) (by simp only at l1;omega)))
theorem Yhy {s:Ze}{D:Nat}(ti:Zq s D)(r:Zf){t:Int}(ht:0≤t∧t≤2147483647)(h:DuP s.dues):∀k,k≤(enW s).length→DuP (stK s.par t (enW s) ⟨(enX s).ms,s.dues,s.exit,r.out,r.started⟩ k).ds
 | 0,_=>h
 | k+1,hk=>by
  have ih:=Yhy ti r ht h k (by omega);have st:=Zri ti r ht (k:=k) (by omega);have hd0:(enW s).drop k=at0 (enW s) k::(enW s).drop (k+1):=by rw[List.drop_eq_getElem_cons (by omega),Ye (by omega)]
  have hin:=Vw st.e (z:=at0 (enW s) k) (by rw[hd0];simp);rw[stK,J2];split
  ·exact ih
  ·refine Zlm ih ht ?_;exact bal0 (st.m _ (YA (z:=ZQ) (k:=(at0 (enW s) k).toNat) (by omega)))
structure Fz (s S:Ze):Prop where
 k:S.marks=s.marks
 r:S.ring=s.ring
 pn:S.purses.length=s.purses.length
 ml:s.members.length≤S.members.length
 o:S.pool=s.pool∨S.pool=[]
 du:DuP s.dues→DuP S.dues
theorem Fz.next {s S S':Ze}(h:Fz s S)(h2:Fz S S'):Fz s S' :=
 ⟨h2.k.trans h.k,h2.r.trans h.r,h2.pn.trans h.pn,Nat.le_trans h.ml h2.ml,by
  rcases h2.o with e|e
  ·rw[e];exact h.o
  ·exact .inr e,fun x=>h2.du (h.du x)⟩
theorem fz_wg (s:Ze):Fz s (wgS s):=⟨rfl,rfl,rfl,Nat.le_of_eq (Yat s).l.symm,.inl rfl,id⟩
theorem fz_mt {s:Ze}{D:Nat}(ti:Zq s D){r:Zf}(ha:0≤r.act∧r.act≤18446744073709551615):Fz s (mtS s r) :=
 ⟨rfl,rfl,(Ykg ti ha (Nat.le_refl _)).l2,Nat.le_of_eq (Zzt s r).l.symm,.inl rfl,id⟩
theorem fz_fn (s:Ze)(r:Zf):Fz s (fnS s r):=⟨rfl,rfl,rfl,Nat.le_of_eq (Zys s r).l.symm,.inl rfl,id⟩
theorem Yvd {s:Ze}{D:Nat}(ti:Zq s D){t:Int}(ht:0≤t∧t≤2147483647):Fz s (ejS s t s.members.length) :=
 ⟨rfl,rfl,rfl,Nat.le_of_eq (Zrg s t).l.symm,.inl rfl,fun h=>Ygr ti.be.m ht h _ (Nat.le_refl _)⟩
theorem fz_lv {s:Ze}{D:Nat}(ti:Zq s D){t:Int}(ht:0≤t∧t≤2147483647):Fz s (lvS s t) :=
 ⟨rfl,rfl,(Zig ti.be.p (lv_d ti ht) _ (Nat.le_refl _)).1,Nat.le_of_eq (Yac s t).l.symm,.inl rfl,fun h=>Ylk (Ygz ti ht h _ (Nat.le_refl _)) _⟩
theorem fz_en {s:Ze}{D:Nat}(ti:Zq s D)(r:Zf){t:Int}(ht:0≤t∧t≤2147483647):Fz s (enS s r t):=by
 have hx:=Ynm ti;have st:=Zri ti r ht (Nat.le_refl (enW s).length);unfold enS;split
 ·refine⟨rfl,rfl,hx.1.l2,?_,.inr rfl,fun h=>Yhy ti r ht h _ (Nat.le_refl _)⟩;show s.members.length≤(enY s r t).ms.length;have h1:(enY s r t).ms.length=(enX s).ms.length:=st.l1;omega
 ·exact⟨rfl,rfl,rfl,Nat.le_refl _,.inl rfl,id⟩
theorem fz_mo {s:Ze}{D:Nat}(ti:Zq s D)(r:Zf):Fz s (moS s r) :=
 ⟨rfl,rfl,(mo_k ti r (Nat.le_refl _)).l2,Nat.le_refl _,.inl rfl,id⟩
theorem fz_aj (s:Ze):Fz s (ajS s) :=
 ⟨rfl,rfl,(UB s.par (s.members,s.purses) s.members.length).2,Nat.le_of_eq (UB s.par (s.members,s.purses) s.members.length).1.symm,.inl rfl,id⟩
theorem Yhs {s:Ze}{D:Nat}(ti:Zq s D)(ms:∀m∈s.members,MI s.par m):Zq (Vm s).1 (D+384)∧Fz s (Vm s).1∧∀m∈(Vm s).1.members,MI (Vm s).1.par m∧MF (Vm s).1.par m:=by
 obtain⟨ti7,f7,ti8,m8,p8,e8,l8⟩:=Ymj ti ms;have hpc:=Z6 ti.r;have hep:=ti.ep;have hml:=ti.ml;have hA:=GM ti.ml ms;have ht:0≤atP s∧atP s≤2147483647:=by unfold atP;omega
 have hact:0≤W6 s∧W6 s≤18446744073709551615:=by
  have:=VX (ks:=s.marks) ti.be.m;have e:W6 s=VA s.members:=rfl;omega
 have ti2:Zq (tk2 s).1 D:=Zqq ti;have z2:Fz s (tk2 s).1:=fz_wg s;have ra2:0≤(tk2 s).2.act∧(tk2 s).2.act≤18446744073709551615:=hact;obtain⟨S2,hS2⟩:∃x,x=(tk2 s).1:=⟨_,rfl⟩
 obtain⟨R2,hR2⟩:∃x,x=(tk2 s).2:=⟨_,rfl⟩
 have rb2:R2.burned=0:=by rw[hR2];rfl
 have e3:tk3 s=(mtS S2 R2,mtR S2 R2):=by rw[hS2,hR2];rfl
 rw[← hS2]at ti2 z2;rw[← hR2]at ra2;have ti3:=Ydy ti2 ra2;have z3:=z2.next (fz_mt ti2 ra2);have rb3:(mtR S2 R2).burned=0:=rb2;obtain⟨S3,hS3⟩:∃x,x=mtS S2 R2:=⟨_,rfl⟩
 obtain⟨R3,hR3⟩:∃x,x=mtR S2 R2:=⟨_,rfl⟩
 rw[← hS3]at ti3 z3 e3;rw[← hR3]at rb3 e3;have e4:tk4 s=(fnS S3 R3,fnR S3 R3 S3.members.length):=by unfold tk4;rw[e3]
 have ti4:=Ycr ti3 rb3;have z4:=z3.next (fz_fn S3 R3);obtain⟨S4,hS4⟩:∃x,x=fnS S3 R3:=⟨_,rfl⟩
 rw[← hS4]at ti4 z4 e4;have e5:(tk5 s).1=ejS S4 (atP s) S4.members.length:=by unfold tk5;rw[e4];rfl
 have ti5:=Zdq ti4 ht (Nat.le_refl S4.members.length);have z5:=z4.next (Yvd ti4 ht);rw[← e5]at ti5 z5;have z7:Fz s (tk7 s).1:=z5.next (fz_lv ti5 ht);have z8:Fz s (tk8 s).1:=z7.next (fz_en ti7 (tk7 s).2 ht);have ti9:Zq (tk9 s).1 (D+256):=Yhv ti8 (tk8 s).2 (Nat.le_refl _);have z9:Fz s (tk9 s).1:=z8.next (fz_mo ti8 (tk8 s).2);have m9:∀m∈(tk9 s).1.members,MI s.par m∧MF s.par m:=m8;obtain⟨S9,hS9⟩:∃x,x=(tk9 s).1:=⟨_,rfl⟩
 rw[← hS9]at ti9 z9 m9;by_cases c:(tk9 s).1.par=s.par
 ·have e10:(Vm s).1=S9:=by rw[Vm,if_pos c,hS9]
  rw[← hS9]at c;rw[e10];refine⟨ti9.mono (by omega),z9,?_⟩;rw[c];exact m9
 ·have e10:(Vm s).1=ejS (ajS S9) (atP s) (ajS S9).members.length:=by rw[Vm,if_neg c,hS9];rfl
  have tj:Zq (ajS S9) (D+256):=Zue ti9 (Nat.le_refl _);rw[e10];refine⟨(Zdq tj ht (Nat.le_refl _)).mono (by have:=tj.ml;omega),z9.next ((fz_aj S9).next (Yvd tj ht)),?_⟩;exact Ysv tj.r _ (aj_ms (p:=s.par) ti9.r fun m hm=>(m9 m hm).1)
theorem UC (q:Zd)(m:Zc):(JL q m).status=m.status∧(JL q m).owner=m.owner:=by
 unfold JL;split<;>exact⟨rfl,rfl⟩
theorem chk0:Jz (List.replicate 16 0) 128=true:=by decide
theorem get0:∀ i:Nat,i<128→WH (List.replicate 16 0) i=false:=by decide +kernel
theorem Ypg (s:Ze)(r:Zf)(t:Int):(enS s r t).ep=s.ep:=by
 unfold enS;split<;>rfl
theorem Yrq (s:Ze)(r:Zf)(t:Int):(Zti t (ajS s,r)).1.ep=s.ep:=rfl
theorem Yqj (s:Ze)(r:Zf):(moS s r).ep=s.ep:=rfl
theorem Yts (s:Ze):(seS s).ep=s.ep+1:=rfl
theorem ep7' (s:Ze):(tk7 s).1.ep=s.ep:=rfl
theorem Zpe (s:Ze):(YP s).ep=s.ep+1:=by
 have e8:(tk8 s).1.ep=s.ep:=(Ypg (tk7 s).1 (tk7 s).2 (atP s)).trans (ep7' s);have e9:(tk9 s).1.ep=(tk8 s).1.ep:=Yqj (tk8 s).1 (tk8 s).2;have e10:(Vm s).1.ep=(tk9 s).1.ep:=by
  by_cases c:(tk9 s).1.par=s.par
  ·rw[Vm,if_pos c]
  ·rw[Vm,if_neg c];exact Yrq _ _ _
 have eS:(YP s).ep=(Vm s).1.ep+1:=Yts (Vm s).1;rw[eS,e10,e9,e8]
theorem Zux {h:PH}{v:SV}{s:Ze}(hs:Zo h v s)(hf:Yb s=true)(he:s.ep<1073741824):Yb (YP s)=true:=by
 have ti:=Yex hs hf he (Nat.le_refl s.dues.length);obtain⟨t10,z10,m10⟩:=Yhs ti fun m hm=>(Ycz hs hf m hm).1;obtain⟨f1,f2,f3,f4,f5,f6,f7,f8,f9⟩:=fitsT_iff.1 hf;have hc:=J0 s;have hcb:=Yab (calm:=s.calm) (pr:=JB s) (ac:=W6 s);have hpe:=Zpe s;have eS:YP s=seS (Vm s).1:=rfl;obtain⟨S,hS⟩:∃x,x=(Vm s).1:=⟨_,rfl⟩
 rw[← hS]at t10 z10 m10 eS;have hl:(seS S).members.length=S.members.length:=Wy _ _ _;have hsum:=t10.sum;obtain⟨b1,b2,b3,b4,b5,b6⟩:=t10.parts;have hep:=t10.ep;have hac:∀i,Y1 (seS S) i=true↔0≤i∧i<(s.purses.length:Int):=fun i=>by
  rw[acctT_iff,← z10.pn];exact Iff.rfl
 simp only[VJ,Bool.and_eq_true,List.all_eq_true,decide_eq_true_eq,Jw,Zdi,List.mem_range,Bool.not_eq_true']at f6
 have hdu0:DuP s.dues:=⟨line_iff.2 fun k hk=>⟨(f6.2 k hk).1.2,(f6.2 k hk).2⟩,fun x hx=>by
  obtain⟨k,hk,rfl⟩:=List.mem_iff_getElem.1 hx;have:=(f6.2 k hk).1.1;rw[Z9 hk]at this;simp only[VR,Bool.and_eq_true,wi_iff,decide_eq_true_eq]at this
  exact⟨this.1.1.2,this.1.2⟩⟩
 have hdu:=z10.du hdu0;rw[fitsT_iff,hc,hpe,eS];refine⟨t10.r,?_,?_,?_,?_,?_,?_,?_,?_⟩
 ·rw[wi_iff];have:=ti.ep;omega
 ·rw[wi_iff];exact hcb
 ·simp only[V2,Bool.and_eq_true,List.all_eq_true,decide_eq_true_eq,wi_iff]at f4 ⊢;refine⟨?_,fun z hz=>?_⟩
  ·show 1≤(S.purses.length:Int)∧(S.purses.length:Int)≤64;rw[z10.pn];exact f4.1
  ·obtain⟨k,hk,rfl⟩:=List.mem_iff_getElem.1 (show z∈S.purses from hz);have:=Yw t10.be.p k;rw[Ye hk];omega
 ·simp only[We,Bool.and_eq_true,List.all_eq_true,decide_eq_true_eq];refine⟨⟨⟨by rw[hl];exact t10.ml,fun m hm=>?_⟩,?_⟩,?_⟩
  ·have e:(seS S).members=S.members.map (JL S.par):=Zfx _ _;rw[e]at hm;obtain⟨x,hx,rfl⟩:=List.mem_map.1 hm;have h1:=m10 x hx;have h2:=t10.be.o x hx;refine⟨Yjw t10.r h1.1 h1.2,?_⟩;rw[(UC _ _).2,hac,← z10.pn];exact h2
  ·rw[row_iffB];exact J3 t10.en hl fun j hj=>by
    show (gr ZQ (upN (JL S.par) S.members S.members.length) j).status=1↔_;rw[U6 _ _ _ (Nat.le_refl _),if_pos hj,(UC _ _).1]
  ·rw[row_iffB];exact J3 t10.ex hl fun j hj=>by
    show (gr ZQ (upN (JL S.par) S.members S.members.length) j).status=3↔_;rw[U6 _ _ _ (Nat.le_refl _),if_pos hj,(UC _ _).1]
 ·simp only[VJ,Bool.and_eq_true,List.all_eq_true,decide_eq_true_eq,Jw,Zdi,List.mem_range,Bool.not_eq_true'];refine⟨⟨t10.on,fun d hd=>?_⟩,fun k hk=>?_⟩
  ·have hd':d∈s.pool:=by
    have hd2:d∈S.pool:=hd;rcases z10.o with e|e
    ·rw[← e];exact hd2
    ·rw[e]at hd2;cases hd2
   have h1:=f6.1.2 d hd';have hmm:=z10.ml;simp only[V4,Bool.and_eq_true,Bool.or_eq_true,wi_iff]at h1 ⊢;refine⟨⟨h1.1.1,(hac _).2 (acctT_iff.1 h1.1.2)⟩,h1.2.imp id fun c=>?_⟩;rw[hl];omega
  ·have hk':k<S.dues.length:=hk;have h1:=(line_iff.1 hdu.1) k hk';refine⟨⟨?_,h1.1⟩,h1.2⟩;have h2:=hdu.2 _ (GG hk');have h3:=t10.dd _ (GG hk');have h4:=Zye (fun x hx=>(t10.dd x hx).1) hk';show VR (seS S) (gr ZV S.dues k)=true;simp only[VR,Bool.and_eq_true,decide_eq_true_eq,wi_iff];refine⟨⟨⟨(hac _).2 (by rw[← z10.pn];exact h3.2),h2.1⟩,h2.2⟩,by omega⟩
 ·simp only[Vk,Bool.and_eq_true,List.all_eq_true,decide_eq_true_eq];refine⟨t10.mn,fun m hm=>?_⟩;have h1:=t10.mm m hm;exact⟨⟨h1.f,(hac _).2 (by rw[← z10.pn];exact h1.a)⟩,(hac _).2 (by rw[← z10.pn];exact h1.t)⟩
 ·simp only[U8,Zfr,Bool.and_eq_true,List.all_eq_true,decide_eq_true_eq]at f8 ⊢;refine⟨⟨⟨?_,chk0⟩,fun b hb=>?_⟩,fun i hi=>?_⟩
  ·show (Zjz S.ring S.marks).length≤8;rw[Zjz,List.length_cons,List.length_take];omega
  ·rcases List.mem_cons.1 (show b∈Zjz S.ring S.marks from hb) with rfl|hb
   ·rw[z10.k];exact f8.1.1.2
   ·rw[z10.r]at hb;exact f8.1.2 b (List.mem_of_mem_take hb)
  ·rw[Bool.or_eq_true,Bool.not_eq_true'];exact .inr (get0 i (List.mem_range.1 hi))
 ·simp only[Wc,Bool.and_eq_true,decide_eq_true_eq];refine⟨t10.top,?_⟩;have hm:=t10.mon;have e1:Zsn (seS S)=tot (S.members.map Zc.bal):=by
   show tot ((upN (JL S.par) S.members S.members.length).map Zc.bal)=_;rw[Yky _ _ rfl]
  have e2:Zta (seS S)=tot S.purses:=rfl;have e3:Gx (seS S)=tot (S.pool.map Zk.amt):=rfl;have e4:Zrn (seS S)=Wu S.dues:=rfl;rw[Zkr,e1,e2,e3,e4];show _+S.treas+S.burn=S.gen+S.mint;omega
def Zkj:Zd where
 inc:=10
 maxEff:=30
 floor:=10
 cap:=40
 up:=10
 down:=5
 bias:=4
 quot:=100
 biasEm:=8
 quotEm:=50
 recover:=2
 scoreCap:=100
 rate:=1048576
 bond:=1
 delay:=2
 streak:=4
 boost:=100
 absent:=100
 burn:=5000
 churn:=2
 wait:=2
 poll:=2
 enact:=1
 quorum:=3000
def Zbd:Zz:=⟨Zkj,1073741824,[500,200],[⟨0,25⟩,⟨1,40⟩]⟩
theorem Ych:Zj Zkj:=by
 constructor
 ·intro z hz;simp only[Ys,Zkj,List.mem_cons,List.not_mem_nil,or_false]at hz;omega
 ·intro z hz;simp only[Yo,Zkj,List.mem_cons,List.not_mem_nil,or_false]at hz;omega
theorem Zkc (hk:K (WR Zkj) L h):Zb prog 135 [] L h K:=by
 refine ZS func135 rfl (rs:=[_]) rfl rfl ZX (by kernel_rfl) rfl rfl ?_;refine xx ?_;refine Z0 fun b0 nb0 zb0=>?_;(try simp only[ZT]at nb0);refine xx ?_;exact ZO (ZP hk)
theorem Zif (hk:∀h' pa pc fa fc,PH.le h h'→ZH h' (.slice pa 2 pc) (.slice fa 2 fc) Zbd→K (genV Zbd (.slice pa 2 pc) (.slice fa 2 fc)) L h'):Zb prog 51 [] L h K:=by
 refine ZS func51 rfl (rs:=[_]) rfl rfl ZX (by kernel_rfl) rfl rfl ?_;refine xx ?_;refine Z0 fun b0 nb0 zb0=>?_;(try simp only[ZT]at nb0);refine xx ?_;refine Zkc ?_;refine xx ?_;refine Z0 fun b1 nb1 zb1=>?_;(try simp only[ZT]at nb1);refine xx ?_;refine Z0 fun b2 nb2 zb2=>?_;(try simp only[ZT]at nb2);refine xx ?_;have s1:Sl (pub h b1 [.int .u64 500,.int .u64 200]) (.slice (some ⟨b1,0,none⟩) 2 2) 2 1 [.int .u64 500,.int .u64 200]:=Vv (o:=some (b1,2)) ⟨Nat.le_refl _,by simp [maxLen]⟩ rfl (by decide);have s2:Sl (pub (pub h b1 [.int .u64 500,.int .u64 200]) b2 [.int .i64 0,.int .u64 25,.int .i64 1,.int .u64 40]) (.slice (some ⟨b2,0,none⟩) 2 2) 2 2 [.int .i64 0,.int .u64 25,.int .i64 1,.int .u64 40]:=Vv (o:=some (b2,2)) ⟨Nat.le_refl _,by simp [maxLen]⟩ rfl (by decide);have n2:(pub h b1 [.int .u64 500,.int .u64 200]) b2=noC:=Vi (o:=some (b1,2)) (by first|exact nb2.1|exact Ne.symm nb2.1) zb2;have l1:=Ziv (h:=h) zb1 [.int .u64 500,.int .u64 200];have l2:=Ziv n2 [.int .i64 0,.int .u64 25,.int .i64 1,.int .u64 40];refine⟨L,_,?_,hk _ _ _ _ _ (l1.trans l2) ⟨Ych,by decide,⟨s1.up l2,fun z hz=>?_⟩,⟨Yes,s2⟩,fun x hx=>?_⟩⟩
 ·first
  | exact(Za.perm _ (List.Perm.swap _ _ _)).trans ((Va b1 _ _ _ [] _ h (by decide)).trans ((Va b2 _ _ _ [] _ _ (by decide)).trans (Za.tail _ _ _)))
  | exact(Va b1 _ _ _ [_] _ h (by decide)).trans ((Va b2 _ _ _ [] _ _ (by decide)).trans (Za.tail _ _ _))
 ·simp only[Zbd,List.mem_cons,List.not_mem_nil,or_false]at hz;rw[show IntKind.u64.min=0 by decide,show IntKind.u64.max=18446744073709551615 by decide];omega
 ·simp only[Zbd,List.mem_cons,List.not_mem_nil,or_false]at hx;rcases hx with rfl|rfl
  ·exact⟨by decide,by decide⟩
  ·exact⟨by decide,by decide⟩
def simpS:Ze:=⟨Zkj,1073741824,765,0,0,0,0,0,false,[500,200],[⟨25,20,0,0,0,2⟩,⟨40,30,0,0,1,2⟩],[],[],[],[],[],List.replicate 16 0,[]⟩
theorem Zjn:Zpn Zbd=true:=by decide +kernel
theorem Ydh:Yht Zbd=simpS:=by
 rw[Yht,Zjn];show Yfr Zbd=simpS;have e1:tot (VV Zbd)=765:=by decide +kernel
 have e2:Wm Zkj 25=20:=by decide +kernel
 have e3:Wm Zkj 40=30:=by decide +kernel
 rw[Yfr,e1];simp only[simpS,Zbd,List.map_cons,List.map_nil,Zwi,e2,e3]
theorem Zeo:Yb simpS=true:=by decide +kernel
theorem Zmd {pv fv:Value}(hg:ZH h pv fv Zbd)(hk:∀h' u,PH.le h h'→Zo h' u simpS→K (.tuple #[stV simpS u,.int .i64 0]) L h'):Zb prog 50 [genV Zbd pv fv] L h K:=by
 have e:=Ydh;refine Yjm pv fv hg (by decide) fun h' u le hs=>?_;rw[e,Zjn]at *;exact hk h' u le hs
theorem Zmw {s:Ze}(hf:Zat s=true):ZD s:=by
 have h9:=JY (Zbs hf);simp only[Zat,Bool.and_eq_true,List.all_eq_true,decide_eq_true_eq]at hf;exact⟨by omega,by omega,by omega,by omega,by omega,by omega,by omega,by omega,by omega,fun m hm=>by have:=hf.2 m hm;omega,fun b hb=>by have:=hf.1.2 b hb;omega⟩
theorem U4 {s:Ze}(ho:ZD s):Zv s:=⟨by have:=ho.p;omega,by have:=ho.m;omega,by have:=ho.e;omega,by have:=ho.x;omega,by have:=ho.o;omega,by have:=ho.d;omega,by have:=ho.t;omega,by have:=ho.r;omega⟩
theorem Zw.slices {q:RV}{r:Zf}(hq:Zw h q r):∃oa oc la lc sa sc da dc,q=⟨.slice oa r.out.length oc,.slice la r.left.length lc,.slice sa r.started.length sc,.slice da r.done.length dc⟩:=by
 obtain⟨qo,ql,qs,qd⟩:=q;obtain⟨h1,h2,h3,h4⟩:=hq;simp only at h1 h2 h3 h4;obtain⟨oa,oc,rfl,_⟩:=h1.open;obtain⟨la,lc,rfl,_⟩:=h2.open;obtain⟨sa,sc,rfl,_⟩:=h3.open;obtain⟨da,dc,rfl,_⟩:=h4.open;exact⟨oa,oc,la,lc,sa,sc,da,dc,rfl⟩
theorem Zw.up {h h':PH}(le:PH.le h h'){q:RV}{r:Zf}(hq:Zw h q r):Zw h' q r:=⟨hq.o.up le,hq.l.up le,hq.s.up le,hq.d.up le⟩
abbrev nilR:RV:=⟨.slice none 0 0,.slice none 0 0,.slice none 0 0,.slice none 0 0⟩
theorem Ycn {s:Ze}(v:SV)(hs:Zo h v s)(few:ZD s)(fd:s.dues.length≤29000)
  (hk:Zdl s=0→Yb s=true→s.ep<1073741824→∀h' u q,PH.le h h'→Zo h' u (YP s)→Zw h' q (Yz s)→K (.tuple #[stV (YP s) u,rpV (Yz s) q,.int .i64 0]) L h')
  (hno:Zdl s≠0→K (.tuple #[stV Gl Zyi,rpV zeroR nilR,.int .i64 (Zdl s)]) L h) :
  Zb prog 25 [stV s v] L h K:=by
 by_cases hf:Yb s=true
 ·by_cases he:s.ep<1073741824
  ·have e0:Zdl s=0:=by rw[Zdl,if_pos hf,if_neg (by omega)]
   have ti:=Yex hs hf he (Nat.le_refl s.dues.length);have ms:=Ycz hs hf;have t8:=Ymj ti fun m hm=>(ms m hm).1
   exact Zxa v hs few fd hf he (GM ti.ml fun m hm=>(ms m hm).1) (by
    have:=GM t8.2.2.2.2.2.2 fun m hm=>(t8.2.2.2.1 m hm).1;show VA (tk8 s).1.members≤_
    omega) (hk e0 hf he)
  ·have e0:Zdl s=200:=by rw[Zdl,if_pos hf,if_pos (by omega)]
   have hno:=hno (by omega);rw[e0]at hno;have fewS:=U4 few;obtain⟨pa,pc,ma,mc,ea,ec,xa,xc,oa,oc,da,dc,ta,tc,ka,kc,ra,rc,rfl⟩:=hs.slices;refine Ya func25 rfl (rs:=[_,_,_]) rfl rfl ZX (by kernel_rfl) rfl rfl fun ap nd=>?_;clear ap nd;refine xx ?_;refine Z0 fun b1 nb1 zb1=>?_;(try simp only[ZT]at nb1);refine xx ?_;refine Z0 fun b2 nb2 zb2=>?_;(try simp only[ZT]at nb2);refine xx ?_;refine Z0 fun b3 nb3 zb3=>?_;(try simp only[ZT]at nb3);refine xx ?_;refine Vz (s:=s) ⟨.slice pa s.purses.length pc,.slice ma s.members.length mc,.slice ea s.entry.length ec,.slice xa s.exit.length xc,.slice oa s.pool.length oc,.slice da s.dues.length dc,.slice ta s.motions.length tc,.slice ka s.marks.length kc,.slice ra s.ring.length rc⟩ hs fewS ?_;rw[hf];refine xx ?_;exact ZO (ZO (ZO (ZP hno)))
 ·have hf':Yb s=false:=by simpa using hf
  have e0:Zdl s=291:=by rw[Zdl,if_neg hf]
  have hno:=hno (by omega);rw[e0]at hno;have fewS:=U4 few;obtain⟨pa,pc,ma,mc,ea,ec,xa,xc,oa,oc,da,dc,ta,tc,ka,kc,ra,rc,rfl⟩:=hs.slices;refine Ya func25 rfl (rs:=[_,_,_]) rfl rfl ZX (by kernel_rfl) rfl rfl fun ap nd=>?_;clear ap nd;refine xx ?_;refine Z0 fun b1 nb1 zb1=>?_;(try simp only[ZT]at nb1);refine xx ?_;refine Z0 fun b2 nb2 zb2=>?_;(try simp only[ZT]at nb2);refine xx ?_;refine Z0 fun b3 nb3 zb3=>?_;(try simp only[ZT]at nb3);refine xx ?_;refine Vz (s:=s) ⟨.slice pa s.purses.length pc,.slice ma s.members.length mc,.slice ea s.entry.length ec,.slice xa s.exit.length xc,.slice oa s.pool.length oc,.slice da s.dues.length dc,.slice ta s.motions.length tc,.slice ka s.marks.length kc,.slice ra s.ring.length rc⟩ hs fewS ?_;rw[hf'];refine xx ?_;exact ZO (ZO (ZO (ZP hno)))
theorem Vp:ZD simpS:=by constructor<;>decide
theorem en_ep (s:Ze)(r:Zf)(t:Int):(enS s r t).ep=s.ep:=by
 unfold enS;split<;>rfl
theorem ej_ep (s:Ze)(r:Zf)(t:Int):(Zti t (ajS s,r)).1.ep=s.ep:=rfl
theorem mo_ep (s:Ze)(r:Zf):(moS s r).ep=s.ep:=rfl
theorem se_ep (s:Ze):(seS s).ep=s.ep+1:=rfl
theorem ep7 (s:Ze):(tk7 s).1.ep=s.ep:=rfl
theorem Ymq (s:Ze):(YP s).ep=s.ep+1:=by
 have e8:(tk8 s).1.ep=s.ep:=(en_ep (tk7 s).1 (tk7 s).2 (atP s)).trans (ep7 s);have e9:(tk9 s).1.ep=(tk8 s).1.ep:=mo_ep (tk8 s).1 (tk8 s).2;have e10:(Vm s).1.ep=(tk9 s).1.ep:=by
  by_cases c:(tk9 s).1.par=s.par
  ·rw[Vm,if_pos c]
  ·rw[Vm,if_neg c];exact ej_ep _ _ _
 have eS:(YP s).ep=(Vm s).1.ep+1:=se_ep (Vm s).1;rw[eS,e10,e9,e8]
theorem Zrq:Zdl simpS=0∧(YP simpS).ep=1∧(YP simpS).calm=1∧(Yz simpS).act=50∧(Yz simpS).quo=false∧(Yz simpS).mode=2:=by
 obtain⟨r1,r2,r3,r4,r5,_⟩:=Zff simpS;rw[r2,r3,r5,J0,Ymq];refine⟨by decide +kernel,by decide +kernel,by decide +kernel,by decide +kernel,by decide +kernel,by decide +kernel⟩
theorem bud_0 (p:Zd):Zhk p 0=0:=by unfold Zhk;rw[if_pos (.inl rfl)]
theorem Zmx {s:Ze}{D:Nat}(ti:Zq s D)(ms:∀m∈s.members,MI s.par m) :
  (0≤(Yz s).paid∧(Yz s).paid≤18446744073709551615)∧(0≤(Yz s).kept∧(Yz s).kept≤18446744073709551615)∧(Yz s).paid+(Yz s).kept=(Yz s).mint∧(Yz s).mint≤18446744073709551615 ∧
  ((Yz s).mode=3∨(Yz s).mode=4→(Yz s).mint=0)∧((Yz s).act=0→(Yz s).mint=0)∧(Yz s).pres≤(Yz s).act∧(s.emer=decide ((Yz s).mode=4)) ∧
  ((Yz s).quo=true→(YP s).calm=0)∧((Yz s).quo=false→0<(YP s).calm):=by
 obtain⟨r1,r2,r3,r4,r5,r6,r7,r8⟩:=Zff s;have hA:=GM ti.ml ms;have hact:0≤W6 s∧W6 s≤18446744073709551615:=by
  have:=VX (ks:=s.marks) ti.be.m;have e:W6 s=VA s.members:=rfl;omega
 have hpre:JB s≤W6 s:=(VX (ks:=s.marks) ti.be.m).2;have ti2:Zq (wgS s) D:=Zqq ti;have hn:=Ytl (r:=wgR s (r0P s)) ti2 hact;have htop:=ti2.top;obtain⟨_,p2,p3⟩:=Yju (r:=wgR s (r0P s)) ti2 hact;have hp:=p3 _ (Nat.le_refl _);have et:tot (mtP (wgS s) (wgR s (r0P s)))=YK (mtP (wgS s) (wgR s (r0P s))) (mtP (wgS s) (wgR s (r0P s))).length:=rfl;obtain⟨a1,a2,a3,a4,a5,a6,a7⟩:=ti2.ok.all;rw[r2,r3,r4,r5,r6,r7,r8,J0];have eN:mtN (wgS s) (wgR s (r0P s))=GY s.par (W6 s) (s.gen+s.mint) s.most (V3 s):=rfl;refine⟨by omega,by omega,by omega,by omega,fun c=>?_,fun c=>?_,hpre,?_,fun c=>?_,fun c=>?_⟩
 ·rw[eN,GY,if_pos (.inl c)]
 ·rw[eN,GY,c,bud_0];split<;>rfl
 ·unfold V3 Ycc
  cases s.emer with
  | true=>simp
  | false =>
   simp only[Bool.false_eq_true,if_false];split
   ·decide
   ·split<;>decide
 ·unfold Vx at c ⊢;split
  ·rfl
  ·rename_i c2;rw[if_neg c2]at c;cases c
 ·unfold Vx at c ⊢;split
  ·rename_i c2;rw[if_pos c2]at c;cases c
  ·simp only;omega
structure ZM (r:Zf):Prop where
 u:∀z∈[r.pres,r.act,r.mint,r.paid,r.kept,r.burned,r.fees],0≤z∧z≤18446744073709551615
 n:∀z∈[r.ep,r.mode],-9223372036854775808≤z∧z≤9223372036854775807
def JR (x y:Zk):Bool:=(x.acct == y.acct)&&((x.mem == y.mem)&&((x.amt == y.amt)&&((x.new == y.new)&&true)))
theorem Zmz (x:Zk):JR x x=true:=by simp [JR]
def V8 (l m:List Zk):Bool:=decide (l.length=m.length)&&decide (∀j,j<l.length→JR (gr Z4 l j) (gr Z4 m j)=true)
theorem Zni (l:List Zk):V8 l l=true:=by
 rw[V8,decide_eq_true rfl,decide_eq_true fun j _=>Zmz _];rfl
def Zhm (n a b:Int):Bool:=decide (a+b=n)
def U0 (a b:Ze)(r:Zf):Bool:=decide (b.ep=a.ep+1)&&(decide (r.ep=a.ep)&&(decide (a.most=b.most)&&decide (a.gen=b.gen)))
def Zgo (a b:Ze)(r:Zf):Bool:=Zhm b.mint a.mint r.mint&&Zhm b.burn a.burn r.burned
def Jd (a:Ze)(r:Zf):Bool:=Zhm r.mint r.paid r.kept&&(decide (r.mint=0)||(!decide (r.mode=3∨r.mode=4)&&decide (r.mint=Zhk a.par r.act)))
def Ycu (p a:Int):Bool:=decide (0<a)&&decide (2*a<3*p)
def Zxw (c:Int)(q:Bool):Int:=if q=true then 0 else min c 1073741823+1
def Zap (a b:Ze)(r:Zf):Bool:=decide (JB a=r.pres)&&(decide (W6 a=r.act)&&(decide (r.quo=Ycu (JB a) (W6 a))&&decide (b.calm=Zxw a.calm r.quo)))
def Ylm (a b:Ze):Bool:=decide (∀j,j<b.members.length→(gr ZQ b.members j).status=2→(gr ZQ a.members j).status=2)
def Vs (a b:Ze)(r:Zf):Bool:=r.quo||(decide (a.par=b.par)&&(decide (a.members.length=b.members.length)&&(V8 a.pool b.pool&&Ylm a b)))
abbrev AuM (a b:Ze)(i:Nat):Prop:=(gr ZQ a.members i).status=2→WH a.marks i=true→Gw (gr ZQ b.members i)∧(gr ZQ a.members i).bal≤(gr ZQ b.members i).bal∧(gr ZQ a.members i).streak≤(gr ZQ b.members i).streak
def Yge (a b:Ze):Bool:=decide (∀i,i<a.members.length→AuM a b i)
def Vt (a b:Ze):Bool := !decide (a.par=b.par)||(decide (a.members.length≤b.members.length)&&Yge a b)
def J4 (a b:Ze)(r:Zf):Int :=
 if (Yb a&&Yb b)=false then 1 else if U0 a b r=false then 2 else if Zgo a b r=false then 3 else if Jd a r=false then 4 else if Zap a b r=false then 5 else if Vs a b r=false then 6 else if Vt a b=false then 7 else 0
structure ZA (m n:Zc):Prop where
 s:n.status=2
 b:m.bal≤n.bal
 k:m.streak≤n.streak
theorem Jl {l:List Zc}{i j:Nat}{m:Zc}(e:j≠i):gr ZQ (l.set i m) j=gr ZQ l j:=by
 by_cases hi:i<l.length
 ·rw[WN hi,if_neg e]
 ·rw[List.set_eq_of_length_le (by omega)]
theorem Zpl (a b:Int):0≤Y8 a b:=by
 unfold Y8;split<;>omega
theorem up_wg {s:Ze}{i:Nat}(hi:i<s.members.length)(m:MI s.par (gr ZQ s.members i))(h2:(gr ZQ s.members i).status=2)(hg:WH s.marks i=true):ZA (gr ZQ s.members i) (gr ZQ (wgS s).members i):=by
 have e:gr ZQ (wgS s).members i=wgF s.par s.marks (V3 s) i (gr ZQ s.members i):=by
  show gr ZQ (upI _ _ _) i=_;rw[Zdr _ _ _ (Nat.le_refl _),if_pos hi]
 have h:=m.st;rw[e,wgF,if_pos (.inl h2),hg,VS,if_pos rfl];refine⟨h2,Int.le_refl _,?_⟩;show (gr ZQ s.members i).streak≤(if max (gr ZQ s.members i).streak 0<s.par.streak then max (gr ZQ s.members i).streak 0+1 else s.par.streak);rw[Int.max_eq_left h.1];split
 ·exact Int.le_add_one (Int.le_refl _)
 ·exact h.2
theorem Yii {s:Ze}{D:Nat}(ti:Zq s D){r:Zf}(ha:0≤r.act∧r.act≤18446744073709551615)(j:Nat):∀k,k≤(mtW s).length→(gr ZQ s.members j).bal≤(gr ZQ (mtX s r k).1 j).bal∧(gr ZQ s.members j).streak≤(gr ZQ (mtX s r k).1 j).streak
 | 0,_=>⟨Int.le_refl _,Int.le_refl _⟩
 | k+1,hk=>by
  obtain⟨h1,h2⟩:=Yii ti ha j k (by omega);have hP:=((Yju ti ha).1 k).1;show (gr ZQ s.members j).bal≤(gr ZQ ((mtX s r k).1.set ((mtW s).getD k 0) (UE s.par (gr ZQ (mtX s r k).1 ((mtW s).getD k 0)) (at0 (mtP s r) k)).1) j).bal∧(gr ZQ s.members j).streak≤(gr ZQ ((mtX s r k).1.set ((mtW s).getD k 0) (UE s.par (gr ZQ (mtX s r k).1 ((mtW s).getD k 0)) (at0 (mtP s r) k)).1) j).streak
  generalize (mtW s).getD k 0=i
  by_cases e:j=i
  ·subst e;by_cases c:j<(mtX s r k).1.length
   ·rw[WN c,if_pos rfl];have hf:=Zpl s.par.cap (gr ZQ (mtX s r k).1 j).bal;refine⟨?_,h2⟩;show _≤(gr ZQ (mtX s r k).1 j).bal+min (at0 (mtP s r) k) (Y8 s.par.cap (gr ZQ (mtX s r k).1 j).bal);omega
   ·rw[List.set_eq_of_length_le (by omega)];exact⟨h1,h2⟩
  ·rw[Jl e];exact⟨h1,h2⟩
theorem up_mt {s:Ze}{D:Nat}(ti:Zq s D){r:Zf}(ha:0≤r.act∧r.act≤18446744073709551615){m:Zc}{i:Nat}(h:ZA m (gr ZQ s.members i)):ZA m (gr ZQ (mtS s r).members i):=by
 obtain⟨h1,h2⟩:=Yii ti ha i (mtW s).length (Nat.le_refl _);have h3:=((Ykg ti ha (Nat.le_refl _)).s i).1;have hb:=h.b;have hk:=h.k;show ZA m (gr ZQ (mtX s r (mtW s).length).1 i);exact⟨h3.trans h.s,by omega,by omega⟩
theorem up_fn {s:Ze}(r:Zf){m:Zc}{i:Nat}(hi:i<s.members.length)(hg:WH s.marks i=true)(h:ZA m (gr ZQ s.members i)):ZA m (gr ZQ (fnS s r).members i):=by
 have e:gr ZQ (fnS s r).members i=fnF s.par s.marks r.mode i (gr ZQ s.members i):=by
  show gr ZQ (upI _ _ _) i=_;rw[Zdr _ _ _ (Nat.le_refl _),if_pos hi]
 rw[e,fnF,if_neg (fun c=>by have c2:=c.2;rw[hg]at c2;cases c2)];exact h
theorem up_ej {s:Ze}(t:Int){m:Zc}{i:Nat}(hi:i<s.members.length)(hb:s.par.floor<m.bal)(h:ZA m (gr ZQ s.members i)):ZA m (gr ZQ (ejS s t s.members.length).members i):=by
 have e:gr ZQ (ejS s t s.members.length).members i=ejF s.par (gr ZQ s.members i):=by
  show gr ZQ (upN _ _ _) i=_;rw[U6 _ _ _ (Nat.le_refl _),if_pos hi]
 have h1:=h.b;rw[e,ejF,if_neg (fun c=>by have:=c.2;omega)];exact h
theorem Ygd {t:Int}{W:List Int}{x:List Zc×List Zi}{j:Nat}(hW:∀z∈W,j≠z.toNat):∀k,k≤W.length→gr ZQ (lvK t W x k).1 j=gr ZQ x.1 j
 | 0,_=>rfl
 | k+1,hk=>by
  have ih:=Ygd (t:=t) (x:=x) hW k (by omega);have hz:at0 W k∈W:=by rw[← Ye (by omega)];exact List.getElem_mem _
  show gr ZQ ((lvK t W x k).1.set (at0 W k).toNat _) j=_;rw[Jl (hW _ hz),ih]
theorem up_lv {s:Ze}{D:Nat}(ti:Zq s D)(t:Int){m:Zc}{i:Nat}(h:ZA m (gr ZQ s.members i)):ZA m (gr ZQ (lvS s t).members i):=by
 show ZA m (gr ZQ (lvK t (lvW s) (s.members,s.dues) (lvW s).length).1 i);rw[Ygd (fun z hz e=>?_) _ (Nat.le_refl _)]
 ·exact h
 ·have h1:=(Vw ti.ex (List.mem_of_mem_take hz)).2.2;have h2:=h.s;rw[e]at h2;omega
theorem Zxo {p:Zd}{j:Nat}{a acct:Int}(ha:0≤a){x:ZJ}{m:Zc}{i:Nat}(hj:j=i→j<x.ms.length)(h:ZA m (gr ZQ x.ms i)):ZA m (gr ZQ (Zld p j a acct x).ms i):=by
 show ZA m (gr ZQ (x.ms.set j (Ux p (gr ZQ x.ms j) a)) i);by_cases e:i=j
 ·have hl:=hj e.symm;subst e;rw[WN hl,if_pos rfl];have hf:=Zpl p.cap (gr ZQ x.ms i).bal;have h1:=h.s;have h2:=h.b;rw[Ux,if_neg (by omega)];exact⟨h1,by show m.bal≤(gr ZQ x.ms i).bal+min a (Y8 p.cap (gr ZQ x.ms i).bal);omega,h.k⟩
 ·rw[Jl e];exact h
theorem Zyy {p:Zd}{d:Zk}(ha:0≤d.amt){x:ZJ}{m:Zc}{i:Nat}(hi:i<x.ms.length)(h:ZA m (gr ZQ x.ms i)):ZA m (gr ZQ (Wl p d x).ms i):=by
 unfold Wl;split
 ·split
  ·exact h
  ·refine Zxo ha (fun e=>absurd e (by omega)) ?_;show ZA m (gr ZQ (x.ms++[_]) i);rw[Z9 (by simp;omega),List.getElem_append_left hi,← Z9 (z:=ZQ) hi];exact h
 ·exact Zxo ha (fun e=>e ▸ hi) h
theorem Yha {p:Zd}{l:List Zk}(hl:∀d∈l,0≤d.amt){x:ZJ}{m:Zc}{i:Nat}(hi:i<x.ms.length)(h:ZA m (gr ZQ x.ms i)):∀k,k≤l.length→i<(crK p l x k).ms.length∧ZA m (gr ZQ (crK p l x k).ms i)
 | 0,_=>⟨hi,h⟩
 | k+1,hk=>by
  obtain⟨h1,h2⟩:=Yha (p:=p) hl hi h k (by omega);exact⟨Nat.lt_of_lt_of_le h1 (Zdp _ _),Zyy (hl _ (YA (by omega))) h1 h2⟩
theorem Ytd {s:Ze}{D:Nat}(ti:Zq s D)(r:Zf){t:Int}(ht:0≤t∧t≤2147483647){m:Zc}{i:Nat}(h:ZA m (gr ZQ (enX s).ms i)):∀k,k≤(enW s).length→ZA m (gr ZQ (stK s.par t (enW s) ⟨(enX s).ms,s.dues,s.exit,r.out,r.started⟩ k).ms i)
 | 0,_=>h
 | k+1,hk=>by
  have ih:=Ytd ti r ht h k (by omega);have st:=Zri ti r ht (k:=k) (by omega);have hd0:(enW s).drop k=at0 (enW s) k::(enW s).drop (k+1):=by rw[List.drop_eq_getElem_cons (by omega),Ye (by omega)]
  have hin:=Vw st.e (z:=at0 (enW s) k) (by rw[hd0];simp);have h2:=ih.s;have e:i≠(at0 (enW s) k).toNat:=fun e=>by rw[e]at h2;omega
  rw[stK,J2];split
  ·show ZA m (gr ZQ (List.set _ _ _) i);rw[Jl e];exact ih
  ·show ZA m (gr ZQ (List.set _ _ _) i);rw[Jl e];exact ih
theorem up_en {s:Ze}{D:Nat}(ti:Zq s D)(r:Zf){t:Int}(ht:0≤t∧t≤2147483647){m:Zc}{i:Nat}(hi:i<s.members.length)(h:ZA m (gr ZQ s.members i)):ZA m (gr ZQ (enS s r t).members i):=by
 unfold enS;split
 ·exact Ytd ti r ht (Yha (p:=s.par) (x:=⟨s.members,s.purses,s.entry⟩) (fun d hd=>(ti.oo d hd).1.a.1) hi h _ (Nat.le_refl _)).2 _ (Nat.le_refl _)
 ·exact h
theorem up_se {s:Ze}{m:Zc}{i:Nat}(hi:i<s.members.length)(h:ZA m (gr ZQ s.members i)):ZA m (gr ZQ (seS s).members i):=by
 have e:gr ZQ (seS s).members i=JL s.par (gr ZQ s.members i):=by
  show gr ZQ (upN _ _ _) i=_;rw[U6 _ _ _ (Nat.le_refl _),if_pos hi]
 rw[e];unfold JL;split
 ·exact⟨h.s,h.b,h.k⟩
 ·exact h
theorem Yrt (s:Ze):(seS s).members.length=s.members.length:=Wy _ _ _
theorem Yvj (s:Ze):(seS s).par=s.par:=rfl
theorem Yqz (s:Ze)(r:Zf)(t:Int):(Zti t (ajS s,r)).1.par=s.par:=rfl
theorem Yjh {s:Ze}{D:Nat}(ti:Zq s D)(ms:∀m∈s.members,MI s.par m∧MF s.par m)(hp:(YP s).par=s.par):s.members.length≤(YP s).members.length∧∀i,i<s.members.length→(gr ZQ s.members i).status=2→WH s.marks i=true→ZA (gr ZQ s.members i) (gr ZQ (YP s).members i):=by
 have hpc:=Z6 ti.r;have hep:=ti.ep;have hml:=ti.ml;have hA:=GM ti.ml fun m hm=>(ms m hm).1;have ht:0≤atP s∧atP s≤2147483647:=by unfold atP;omega
 have hact:0≤W6 s∧W6 s≤18446744073709551615:=by
  have:=VX (ks:=s.marks) ti.be.m;have e:W6 s=VA s.members:=rfl;omega
 have e10:Vm s=tk9 s:=by
  have h0:(YP s).par=(Vm s).1.par:=Yvj (Vm s).1;have h1:(Vm s).1.par=s.par:=h0.symm.trans hp;by_cases c:(tk9 s).1.par=s.par
  ·rw[Vm,if_pos c]
  ·rw[Vm,if_neg c,Yqz]at h1;exact absurd h1 c
 obtain⟨_,z10,_⟩:=Yhs ti fun m hm=>(ms m hm).1;have eS:YP s=seS (Vm s).1:=rfl;have hl:(YP s).members.length=(Vm s).1.members.length:=by rw[eS];exact Yrt _
 refine⟨by rw[hl];exact z10.ml,fun i hi h2 hg=>?_⟩;obtain⟨m,hm⟩:∃m,m=gr ZQ s.members i:=⟨_,rfl⟩
 have mm:=ms _ (YA (z:=ZQ) hi);have hfl:s.par.floor<m.bal:=by rw[hm];exact mm.2 (.inl h2)
 have ti2:Zq (tk2 s).1 D:=Zqq ti;have f2:Fr s (tk2 s).1:=Yat s;have ra2:0≤(tk2 s).2.act∧(tk2 s).2.act≤18446744073709551615:=hact;have u2:ZA m (gr ZQ (tk2 s).1.members i):=by rw[hm];exact up_wg hi mm.1 h2 hg
 obtain⟨S2,hS2⟩:∃x,x=(tk2 s).1:=⟨_,rfl⟩
 obtain⟨R2,hR2⟩:∃x,x=(tk2 s).2:=⟨_,rfl⟩
 have rb2:R2.burned=0:=by rw[hR2];rfl
 have e3:tk3 s=(mtS S2 R2,mtR S2 R2):=by rw[hS2,hR2];rfl
 rw[← hS2]at ti2 f2 u2;rw[← hR2]at ra2;have ti3:=Ydy ti2 ra2;have f3:=f2.next (Zzt S2 R2);have u3:=up_mt ti2 ra2 u2;have rb3:(mtR S2 R2).burned=0:=rb2;obtain⟨S3,hS3⟩:∃x,x=mtS S2 R2:=⟨_,rfl⟩
 obtain⟨R3,hR3⟩:∃x,x=mtR S2 R2:=⟨_,rfl⟩
 rw[← hS3]at ti3 f3 u3 e3;rw[← hR3]at rb3 e3;have e4:tk4 s=(fnS S3 R3,fnR S3 R3 S3.members.length):=by unfold tk4;rw[e3]
 have ti4:=Ycr ti3 rb3;have f4:=f3.next (Zys S3 R3);have u4:=up_fn R3 (i:=i) (by rw[f3.l];exact hi) (by rw[f3.k];exact hg) u3;obtain⟨S4,hS4⟩:∃x,x=fnS S3 R3:=⟨_,rfl⟩
 rw[← hS4]at ti4 f4 u4 e4;have e5:(tk5 s).1=ejS S4 (atP s) S4.members.length:=by unfold tk5;rw[e4];rfl
 have ti5:=Zdq ti4 ht (Nat.le_refl S4.members.length);have f5:=f4.next (Zrg S4 (atP s));have u5:=up_ej (atP s) (i:=i) (by rw[f4.l];exact hi) (by rw[f4.par];exact hfl) u4;rw[← e5]at ti5 f5 u5;have l4:=f4.l;have ti7:Zq (tk7 s).1 (D+192):=(Yll ti5 ht).mono (by omega);have f7:Fr s (tk7 s).1:=f5.next (Yac (tk5 s).1 (atP s));have u7:ZA m (gr ZQ (tk7 s).1.members i):=up_lv ti5 (atP s) u5;have u8:ZA m (gr ZQ (tk8 s).1.members i):=up_en ti7 (tk7 s).2 ht (by rw[f7.l];exact hi) u7;have u9:ZA m (gr ZQ (tk9 s).1.members i):=u8;have z:=z10.ml;rw[← e10]at u9;rw[← hm,eS];exact up_se (Nat.lt_of_lt_of_le hi z) u9
def Was2 (l l':List Zc):Prop:=∀j,j<l.length→(gr ZQ l' j).status=2→(gr ZQ l j).status=2
theorem Was2.next {l l' l'':List Zc}(h:Was2 l l')(h2:Was2 l' l'')(e:l'.length=l.length):Was2 l l'':=fun j hj c=>h j hj (h2 j (by omega) c)
theorem Yuo (s:Ze):Was2 s.members (wgS s).members:=fun j hj c=>by
 have e:=(Yuz (f:=wgF s.par s.marks (V3 s)) (fun k m=>⟨(Zsw _ _ _ _ _).1,(Zsw _ _ _ _ _).2.1⟩) s.members _ (Nat.le_refl _) j).2;exact e.symm.trans c
theorem Yxv {s:Ze}{D:Nat}(ti:Zq s D){r:Zf}(ha:0≤r.act∧r.act≤18446744073709551615):Was2 s.members (mtS s r).members:=fun j _ c =>
 ((Ykg ti ha (Nat.le_refl _)).s j).1.symm.trans c
theorem Yug (s:Ze)(r:Zf):Was2 s.members (fnS s r).members:=fun j hj c=>by
 have e:=(Yuz (f:=fnF s.par s.marks r.mode) (fun k m=>Ydd _ _ _ _ _) s.members _ (Nat.le_refl _) j).2;exact e.symm.trans c
theorem Yvb (s:Ze)(t:Int):Was2 s.members (ejS s t s.members.length).members:=fun j hj c=>by
 have e:gr ZQ (ejS s t s.members.length).members j=ejF s.par (gr ZQ s.members j):=by
  show gr ZQ (upN _ _ _) j=_;rw[U6 _ _ _ (Nat.le_refl _),if_pos hj]
 rw[e,ejF]at c;split at c
 ·exact absurd c (by show ¬((4:Int)=2);decide)
 ·exact c
theorem Ygg (s:Ze)(t:Int):∀k,Was2 s.members (lvK t (lvW s) (s.members,s.dues) k).1
 | 0=>fun _ _ c=>c
 | k+1=>fun j hj c=>by
  have ih:=Ygg s t k j hj;have c2:(gr ZQ ((lvK t (lvW s) (s.members,s.dues) k).1.set (at0 (lvW s) k).toNat (Gk (gr ZQ (lvK t (lvW s) (s.members,s.dues) k).1 (at0 (lvW s) k).toNat) 5)) j).status=2:=c
  generalize (at0 (lvW s) k).toNat=i at c2
  by_cases e:j=i
  ·subst e;by_cases hl:j<(lvK t (lvW s) (s.members,s.dues) k).1.length
   ·rw[WN hl,if_pos rfl]at c2;exact absurd c2 (by show ¬((5:Int)=2);decide)
   ·rw[List.set_eq_of_length_le (by omega)]at c2;exact ih c2
  ·rw[Jl e]at c2;exact ih c2
theorem Yyq (s:Ze):Was2 s.members (seS s).members:=fun j hj c=>by
 have e:gr ZQ (seS s).members j=JL s.par (gr ZQ s.members j):=by
  show gr ZQ (upN _ _ _) j=_;rw[U6 _ _ _ (Nat.le_refl _),if_pos hj]
 rw[e,(UC _ _).1]at c;exact c
theorem Ydm {s:Ze}{D:Nat}(ti:Zq s D)(ms:∀m∈s.members,MI s.par m∧MF s.par m)(hq:(Yz s).quo=false):Was2 s.members (YP s).members:=by
 have hact:0≤W6 s∧W6 s≤18446744073709551615:=by
  have hA:=GM ti.ml fun m hm=>(ms m hm).1;have:=VX (ks:=s.marks) ti.be.m;have e:W6 s=VA s.members:=rfl;omega
 have q7:(tk7 s).2.quo=false:=by have:=(rs8 s).next ((rs9 s).next (Wcm s));rw[← this.quo];exact hq
 have q8:(tk8 s).2.quo=false:=by rw[(rs8 s).quo];exact q7
 have e8:tk8 s=tk7 s:=by
  show (enS (tk7 s).1 (tk7 s).2 (atP s),enR (tk7 s).1 (tk7 s).2 (atP s))=tk7 s;unfold enS enR;rw[q7];rfl
 have ti2:Zq (tk2 s).1 D:=Zqq ti;have f2:Fr s (tk2 s).1:=Yat s;have ra2:0≤(tk2 s).2.act∧(tk2 s).2.act≤18446744073709551615:=hact;have w2:Was2 s.members (tk2 s).1.members:=Yuo s;obtain⟨S2,hS2⟩:∃x,x=(tk2 s).1:=⟨_,rfl⟩
 obtain⟨R2,hR2⟩:∃x,x=(tk2 s).2:=⟨_,rfl⟩
 have e3:tk3 s=(mtS S2 R2,mtR S2 R2):=by rw[hS2,hR2];rfl
 rw[← hS2]at ti2 f2 w2;rw[← hR2]at ra2;have w3:=w2.next (Yxv ti2 ra2) f2.l;have f3:=f2.next (Zzt S2 R2);obtain⟨S3,hS3⟩:∃x,x=mtS S2 R2:=⟨_,rfl⟩
 obtain⟨R3,hR3⟩:∃x,x=mtR S2 R2:=⟨_,rfl⟩
 rw[← hS3]at f3 w3 e3;rw[← hR3]at e3;have e4:tk4 s=(fnS S3 R3,fnR S3 R3 S3.members.length):=by unfold tk4;rw[e3]
 have w4:=w3.next (Yug S3 R3) f3.l;have f4:=f3.next (Zys S3 R3);obtain⟨S4,hS4⟩:∃x,x=fnS S3 R3:=⟨_,rfl⟩
 rw[← hS4]at f4 w4 e4;have e5:(tk5 s).1=ejS S4 (atP s) S4.members.length:=by unfold tk5;rw[e4];rfl
 have w5:=w4.next (Yvb S4 (atP s)) f4.l;have f5:=f4.next (Zrg S4 (atP s));rw[← e5]at f5 w5;have w7:Was2 s.members (tk7 s).1.members:=w5.next (Ygg (tk5 s).1 (atP s) _) f5.l;have f7:Fr s (tk7 s).1:=f5.next (Yac (tk5 s).1 (atP s));have hp:=(Zyw (s:=(tk8 s).1) q8 _ (Nat.le_refl _)).1;have p9:(tk9 s).1.par=s.par:=by
  show (moX (tk8 s).1 (tk8 s).2 (moW (tk8 s).1 (tk8 s).2).length).par=_;rw[hp,e8];exact f7.par
 have e10:Vm s=tk9 s:=by rw[Vm,if_pos p9]
 have w9:Was2 s.members (tk9 s).1.members:=by
  show Was2 s.members (tk8 s).1.members;rw[e8];exact w7
 have l9:(tk9 s).1.members.length=s.members.length:=by
  show (tk8 s).1.members.length=_;rw[e8];exact f7.l
 have eS:YP s=seS (tk9 s).1:=by rw[YP,e10]
 rw[eS];exact w9.next (Yyq _) l9
theorem en_mb (s:Ze)(r:Zf)(t:Int):(enS s r t).mint=s.mint∧(enS s r t).burn=s.burn∧(enS s r t).most=s.most∧(enS s r t).gen=s.gen∧(enR s r t).burned=r.burned:=by
 unfold enS enR;split<;>exact⟨rfl,rfl,rfl,rfl,rfl⟩
theorem mo_mb (s:Ze)(r:Zf):(moS s r).mint=s.mint∧(moS s r).burn=s.burn∧(moS s r).most=s.most∧(moS s r).gen=s.gen∧(moR s r).burned=r.burned:=⟨rfl,rfl,rfl,rfl,rfl⟩
theorem ej_mb (s:Ze)(r:Zf)(t:Int):(Zti t (ajS s,r)).1.mint=s.mint∧(Zti t (ajS s,r)).1.burn=s.burn∧(Zti t (ajS s,r)).1.most=s.most∧(Zti t (ajS s,r)).1.gen=s.gen∧(Zti t (ajS s,r)).2.burned=r.burned:=⟨rfl,rfl,rfl,rfl,rfl⟩
theorem se_mb (s:Ze):(seS s).mint=s.mint∧(seS s).burn=s.burn∧(seS s).most=s.most∧(seS s).gen=s.gen:=⟨rfl,rfl,rfl,rfl⟩
theorem mb7 (s:Ze):(tk7 s).1.mint=s.mint+mtN (wgS s) (wgR s (r0P s))∧(tk7 s).1.burn=s.burn+(tk7 s).2.burned∧(tk7 s).1.most=s.most∧(tk7 s).1.gen=s.gen:=⟨rfl,rfl,rfl,rfl⟩
theorem Yle (s:Ze):(YP s).mint=s.mint+(Yz s).mint∧(YP s).burn=s.burn+(Yz s).burned∧(YP s).most=s.most∧(YP s).gen=s.gen:=by
 have hr:(Yz s).mint=mtN (wgS s) (wgR s (r0P s)):=(rsT s).mint;obtain⟨a7,b7,c7,d7⟩:=mb7 s;obtain⟨a8,b8,c8,d8,e8⟩:=en_mb (tk7 s).1 (tk7 s).2 (atP s);obtain⟨a9,b9,c9,d9,e9⟩:=mo_mb (tk8 s).1 (tk8 s).2;have h10:(Vm s).1.mint=(tk9 s).1.mint∧(Vm s).1.burn=(tk9 s).1.burn∧(Vm s).1.most=(tk9 s).1.most∧(Vm s).1.gen=(tk9 s).1.gen∧(Vm s).2.burned=(tk9 s).2.burned:=by
  by_cases c:(tk9 s).1.par=s.par
  ·rw[Vm,if_pos c];exact⟨rfl,rfl,rfl,rfl,rfl⟩
  ·rw[Vm,if_neg c];exact ej_mb _ _ _
 obtain⟨a10,b10,c10,d10,e10⟩:=h10;obtain⟨aS,bS,cS,dS⟩:=se_mb (Vm s).1;have e7:(Yz s).burned=(tk7 s).2.burned:=e10.trans (e9.trans e8);rw[hr,e7];exact⟨aS.trans (a10.trans (a9.trans (a8.trans a7))),bS.trans (b10.trans (b9.trans (b8.trans b7))),cS.trans (c10.trans (c9.trans (c8.trans c7))),dS.trans (d10.trans (d9.trans (d8.trans d7)))⟩
theorem Zss {h:PH}{v:SV}{s:Ze}(hs:Zo h v s)(hf:Yb s=true)(he:s.ep<1073741824):J4 s (YP s) (Yz s)=0:=by
 have ti:=Yex hs hf he (Nat.le_refl s.dues.length);have ms:=Ycz hs hf;have hf2:=Zux hs hf he;obtain⟨m1,m2,m3,m4⟩:=Yle s;obtain⟨r1,r2,r3,r4,r5,_⟩:=Zff s;obtain⟨k1,k2,k3,k4,k5,k6,k7,k8,k9,k10⟩:=Zmx ti fun m hm=>(ms m hm).1;have hc:=J0 s;have hcb:0≤s.calm:=by
  have:=(fitsT_iff.1 hf).2.2.1;rw[wi_iff]at this;exact this.1
 have e1:(Yb s&&Yb (YP s))=true:=by rw[hf,hf2];rfl
 have e2:U0 s (YP s) (Yz s)=true:=by
  rw[U0,decide_eq_true (Zpe s),decide_eq_true r1,decide_eq_true m3.symm,decide_eq_true m4.symm];rfl
 have e3:Zgo s (YP s) (Yz s)=true:=by
  rw[Zgo,Zhm,Zhm,decide_eq_true m1.symm,decide_eq_true m2.symm];rfl
 have e4:Jd s (Yz s)=true:=by
  rw[Jd,Zhm,decide_eq_true k3];by_cases c:(Yz s).mint=0
  ·rw[decide_eq_true c];rfl
  ·have c1:¬((Yz s).mode=3∨(Yz s).mode=4):=fun x=>c (k5 x);have c2:(Yz s).mint=Zhk s.par (Yz s).act:=by
    have e:(Yz s).mint=GY s.par (W6 s) (s.gen+s.mint) s.most (V3 s):=(rsT s).mint;rw[r5,e];rw[e]at c;unfold GY at c ⊢;split
    ·rename_i x;rw[if_pos x]at c;exact absurd rfl c
    ·rfl
   rw[decide_eq_false c,decide_eq_false c1,decide_eq_true c2];rfl
 have hstep:∀(c p a:Int),0≤c→(Vx c p a).2=Ycu p a∧(Vx c p a).1=Zxw c (Vx c p a).2:=fun c p a h0=>by
  unfold Vx Ycu Zxw;by_cases x:0<a∧2*a<3*p
  ·rw[if_pos x,decide_eq_true x.1,decide_eq_true x.2];exact⟨rfl,rfl⟩
  ·rw[if_neg x];refine⟨?_,?_⟩
   ·by_cases y:0<a
    ·rw[decide_eq_true y,decide_eq_false (fun z=>x ⟨y,z⟩)];rfl
    ·rw[decide_eq_false y];rfl
   ·show min (max c 0) 1073741823+1=min c 1073741823+1;rw[Int.max_eq_left h0]
 have e5:Zap s (YP s) (Yz s)=true:=by
  obtain⟨q1,q2⟩:=hstep s.calm (JB s) (W6 s) hcb;rw[Zap,r4,r5,r3,hc,decide_eq_true rfl,decide_eq_true rfl,decide_eq_true q1,decide_eq_true q2];rfl
 have e6:Vs s (YP s) (Yz s)=true:=by
  cases hq:(Yz s).quo with
  | true=>rw[Vs,hq];rfl
  | false =>
   obtain⟨_,g2,g3,g4⟩:=Ybv ti (fun m hm=>(ms m hm).1) hq;have hw:=Ydm ti ms hq;rw[Vs,hq,g2,g3,g4,decide_eq_true rfl,decide_eq_true rfl,Zni,Ylm,decide_eq_true fun j hj c=>hw j (by omega) c];rfl
 have e7:Vt s (YP s)=true:=by
  by_cases c:s.par=(YP s).par
  ·obtain⟨u1,u2⟩:=Yjh ti ms c.symm;have hth:Yge s (YP s)=true:=by
    rw[Yge,decide_eq_true_eq];intro i hi h2 hg;have u:=u2 i hi h2 hg;exact⟨.inl u.s,u.b,u.k⟩
   rw[Vt,decide_eq_true c,decide_eq_true u1,hth];rfl
  ·rw[Vt,decide_eq_false c];rfl
 rw[J4,if_neg (by rw[e1];decide),if_neg (by rw[e2];decide),if_neg (by rw[e3];decide),if_neg (by rw[e4];decide),if_neg (by rw[e5];decide),if_neg (by rw[e6];decide),if_neg (by rw[e7];decide)]
end Go.X

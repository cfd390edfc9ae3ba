/- Lemmas and contracts. Conditions: as each says. -/
import Derived.Test.YtllhopbilpdpkaaGreatQ29
set_option linter.unusedVariables false
set_option linter.unusedSimpArgs false
set_option maxHeartbeats 12800000
set_option maxRecDepth 20000
namespace Go.X
open Go.RowKit Go.Proofs Go.Bl Go.Proofs.Tryz
variable {L:Own} {h:PH} {K:PK}
structure Zx (h:PH)(q:RV)(r:Zi):Prop where
 o:Ints h .i64 q.o r.out
 l:Ints h .i64 q.l r.left
 s:Ints h .i64 q.s r.started
 d:Ints h .i64 q.d r.done
theorem Zrj {o:Option (Nat×Nat)}{xs:List Value}:∀ {L:Own},Ap L h→(∀x∈L,apB o x.b)→Ap L (Gn h o xs)
 | [],_,_=>trivial
 | _::_,ap,hn=>⟨GC (hn _ List.mem_cons_self) ap.1,Zrj ap.2 fun x hx=>hn x (List.mem_cons_of_mem _ hx)⟩
theorem Zgc {b:Nat}:∀ {L:Own},ZT b L→∀x∈L,x.b≠b
 | [],_,_,hx=>by cases hx
 | _::_,ha,x,hx=>by
  rcases List.mem_cons.1 hx with rfl|hx
  ·exact ha.1
  ·exact Zgc ha.2 x hx
theorem Ymn {e sz:Nat}{o:Option (Nat×Nat)}{xs:List Value}(nd:Nd (oent e sz o xs L)):∀x∈L,apB o x.b:=fun x hx=>by
 cases o with
 | none=>trivial
 | some p=>exact Ne.symm (Zgc nd.1 x hx)
theorem Yfx {e sz:Nat}{o:Option (Nat×Nat)}{xs:List Value}(nd:Nd (oent e sz o xs L)):Nd L:=by
 cases o with
 | none=>exact nd
 | some p=>exact nd.2
theorem Ul {e sz n:Nat}{o:Option (Nat×Nat)}{xs:List Value}{a:Zm}(ok:okO o n)(hl:xs.length=n*sz)(hn:n≤9223372036854775807)(ap:Ap (a::oent e sz o xs L) h)(nd:Nd (a::oent e sz o xs L))(he:e≠4294967295:=by first|decide|omega) :
  ∃h',PH.le h h'∧Za (a::oent e sz o xs L) h (a::L) h'∧Sl h' (ovs o n) n sz xs∧Ap (a::L) h'∧Nd (a::L):=by
 have ap2:=Ap.perm oent_perm ap;have nd2:=Nd.perm oent_perm nd;have ao:apO o [] h:=YH ap2;exact⟨Gn h o xs,Wm ao xs,(Za.perm h oent_perm).trans (Wk o xs _ h he),Vy ok hl hn,Zrj (Ap.oent ap2) (Ymn nd2),Yfx nd2⟩
section
variable {e0 s0 e1 s1 e2 s2 e3 s3 e4 s4 e5 s5:Nat} {o0 o1 o2 o3 o4 o5:Option (Nat×Nat)} {X0 X1 X2 X3 X4 X5:List Value} {a:Zm}
theorem Yqn:(a::oent e0 s0 o0 X0 (oent e1 s1 o1 X1 (oent e2 s2 o2 X2 L))).Perm (a::oent e2 s2 o2 X2 (oent e0 s0 o0 X0 (oent e1 s1 o1 X1 L))):=by
 refine List.Perm.cons _ ?_;exact(Z5 o0 X0 (Yt o1 o2 X1 X2 _)).trans (Yt o0 o2 X0 X2 _)
theorem Yeo:(a::oent e0 s0 o0 X0 L).Perm (a::oent e0 s0 o0 X0 (oent e1 s1 none X1 L)):=List.Perm.refl _
theorem Ymp:(a::oent e0 s0 o0 X0 (oent e1 s1 o1 X1 (oent e2 s2 o2 X2 L))).Perm (a::oent e0 s0 o0 X0 (oent e2 s2 o2 X2 (oent e1 s1 o1 X1 L))) :=
 List.Perm.cons _ (Z5 o0 X0 (Yt o1 o2 X1 X2 _))
theorem Ysr:(a::oent e0 s0 o0 X0 (oent e1 s1 o1 X1 (oent e2 s2 o2 X2 (oent e3 s3 o3 X3 L)))).Perm (a::oent e0 s0 o0 X0 (oent e3 s3 o3 X3 (oent e4 s4 none X4 (oent e2 s2 o2 X2 (oent e1 s1 o1 X1 L))))):=by
 refine List.Perm.cons _ (Z5 o0 X0 ?_);show (oent e1 s1 o1 X1 (oent e2 s2 o2 X2 (oent e3 s3 o3 X3 L))).Perm (oent e3 s3 o3 X3 (oent e2 s2 o2 X2 (oent e1 s1 o1 X1 L)));refine(Yt o1 o2 X1 X2 _).trans ?_;refine(Z5 o2 X2 (Yt o1 o3 X1 X3 _)).trans ?_;exact Yt o2 o3 X2 X3 _
theorem permT3:(a::oent e0 s0 o0 X0 (oent e1 s1 o1 X1 (oent e2 s2 o2 X2 (oent e3 s3 o3 X3 (oent e4 s4 o4 X4 (oent e5 s5 o5 X5 L)))))).Perm (a::oent e0 s0 o0 X0 (oent e4 s4 o4 X4 (oent e5 s5 o5 X5 (oent e1 s1 o1 X1 (oent e2 s2 o2 X2 (oent e3 s3 o3 X3 L)))))):=by
 refine List.Perm.cons _ (Z5 o0 X0 ?_);have up:∀ {e s:Nat} {o:Option (Nat×Nat)} {X:List Value} {R:Own},(oent e1 s1 o1 X1 (oent e2 s2 o2 X2 (oent e3 s3 o3 X3 (oent e s o X R)))).Perm (oent e s o X (oent e1 s1 o1 X1 (oent e2 s2 o2 X2 (oent e3 s3 o3 X3 R)))):=fun {e s o X R} =>
  (Z5 o1 X1 ((Z5 o2 X2 (Yt o3 o X3 X _)).trans (Yt o2 o X2 X _))).trans (Yt o1 o X1 X _)
 exact up.trans (Z5 o4 X4 up)
end
section
variable {e0 s0 e1 s1 e2 s2 e3 s3 e4 s4 e5 s5:Nat} {o0 o1 o2 o3 o4 o5:Option (Nat×Nat)} {X0 X1 X2 X3 X4 X5:List Value} {a b c d:Zm}
theorem up3 {e s:Nat}{o:Option (Nat×Nat)}{X:List Value}{R:Own}:(b::c::d::oent e s o X R).Perm (oent e s o X (b::c::d::R)):=Yj [b,c,d]
theorem Ycu:(a::b::c::d::oent e0 s0 o0 X0 L).Perm (a::oent e0 s0 o0 X0 (b::c::d::L)):=List.Perm.cons _ up3
theorem permT5:(a::b::c::d::oent e0 s0 o0 X0 (oent e1 s1 o1 X1 (oent e2 s2 o2 X2 L))).Perm (a::oent e0 s0 o0 X0 (oent e1 s1 o1 X1 (oent e2 s2 o2 X2 (b::c::d::L)))) :=
 List.Perm.cons _ (up3.trans (Z5 o0 X0 (up3.trans (Z5 o1 X1 up3))))
theorem permT7:(b::c::d::oent e1 s1 o1 X1 (oent e2 s2 o2 X2 (oent e3 s3 o3 X3 (oent e4 s4 o4 X4 (oent e5 s5 o5 X5 L))))).Perm (oent e1 s1 o1 X1 (oent e2 s2 o2 X2 (oent e3 s3 o3 X3 (oent e4 s4 o4 X4 (oent e5 s5 o5 X5 (b::c::d::L)))))) :=
 up3.trans (Z5 o1 X1 (up3.trans (Z5 o2 X2 (up3.trans (Z5 o3 X3 (up3.trans (Z5 o4 X4 up3)))))))
theorem Zcb:(a::oent e0 s0 o0 X0 (b::c::d::oent e1 s1 o1 X1 (oent e2 s2 o2 X2 (oent e3 s3 o3 X3 (oent e4 s4 o4 X4 (oent e5 s5 o5 X5 L)))))).Perm (a::oent e0 s0 o0 X0 (oent e1 s1 o1 X1 (oent e2 s2 o2 X2 (oent e3 s3 o3 X3 (oent e4 s4 o4 X4 (oent e5 s5 o5 X5 (b::c::d::L))))))) :=
 List.Perm.cons _ (Z5 o0 X0 permT7)
theorem Yqh:(a::oent e0 s0 o0 X0 (oent e1 s1 o1 X1 (oent e2 s2 o2 X2 (oent e3 s3 o3 X3 (oent e4 s4 o4 X4 (oent e5 s5 o5 X5 (b::c::d::L))))))).Perm (a::b::c::d::oent e0 s0 o0 X0 (oent e4 s4 o4 X4 (oent e5 s5 o5 X5 (oent e1 s1 o1 X1 (oent e2 s2 o2 X2 (oent e3 s3 o3 X3 L)))))) :=
 permT3.trans (List.Perm.cons _ ((Z5 o0 X0 permT7.symm).trans up3.symm))
end
theorem Ywd (q:Ze)(cs:List Zb):∀k,∀z∈ouN q cs k,0≤z∧z<k
 | 0,z,hz=>by cases hz
 | k+1,z,hz=>by
  rw[ouN]at hz;split at hz
  ·rcases List.mem_append.1 hz with hz|hz
   ·have:=Ywd q cs k z hz;omega
   ·rw[List.mem_singleton]at hz;omega
  ·have:=Ywd q cs k z hz;omega
theorem st_b {p:Ze}{t:Int}{n:Nat}(n0:0<n)(W:List Int){x:StX}(hW:∀z∈W,z<n)(h1:∀z∈x.out,0≤z∧z<n)(h2:∀z∈x.go,0≤z∧z<n):∀k,k≤W.length→(∀z∈(stK p t W x k).out,0≤z∧z<(n:Int))∧(∀z∈(stK p t W x k).go,0≤z∧z<(n:Int))∧(stK p t W x k).out.length≤x.out.length+k∧(stK p t W x k).go.length≤x.go.length+k
 | 0,_=>⟨h1,h2,Nat.le_refl _,Nat.le_refl _⟩
 | k+1,hk=>by
  obtain⟨i1,i2,i3,i4⟩:=st_b (p:=p) (t:=t) n0 W hW h1 h2 k (by omega);have hz:=hW (at0 W k) (by rw[← Yf (by omega)];exact List.getElem_mem _);have hz2:(((at0 W k).toNat:Nat):Int)<n:=by omega
  have new:∀l:List Int,(∀z∈l,0≤z∧z<(n:Int))→∀z∈l++[((at0 W k).toNat:Int)],0≤z∧z<(n:Int):=fun l hl z hz=>by
   rcases List.mem_append.1 hz with hz|hz
   ·exact hl z hz
   ·rw[List.mem_singleton]at hz;omega
  rw[stK,Jg];split
  ·exact⟨i1,new _ i2,by simp only;omega,by simp only[List.length_append,List.length_singleton];omega⟩
  ·exact⟨new _ i1,i2,by simp only[List.length_append,List.length_singleton];omega,by simp only;omega⟩
theorem Yqm {W:List Int}{x:MoX}{n:Nat}(n0:0<n)(hW:∀z∈W,z<n)(h0:∀z∈x.dn,0≤z∧z<n):∀k,k≤W.length→∀z∈(moK W x k).dn,0≤z∧z<(n:Int)
 | 0,_=>h0
 | k+1,hk=>fun z hz=>by
  have ih:=Yqm n0 hW h0 k (by omega);have hw:=hW (at0 W k) (by rw[← Yf (by omega)];exact List.getElem_mem _);have e:(moK W x (k+1)).dn=if moB (gr Yc (moK W x k).mo (at0 W k).toNat) (moK W x k).tr then (moK W x k).dn++[((at0 W k).toNat:Int)] else (moK W x k).dn:=rfl
  rw[e]at hz;split at hz
  ·rcases List.mem_append.1 hz with hz|hz
   ·exact ih z hz
   ·rw[List.mem_singleton]at hz;omega
  ·exact ih z hz
theorem Yjl {l:List Int}{v:Value}(sl:Sl h v l.length 1 (l.map (.int .i64)))(hl:∀z∈l,0≤z∧z<1000000):Ints h .i64 v l:=⟨sl,fun z hz=>by
 rw[show IntKind.i64.min = -9223372036854775808 by decide,show IntKind.i64.max=9223372036854775807 by decide];have:=hl z hz
 omega⟩
open Go.RowKit Go.Proofs Go.Bl Go.Proofs.Tryz
variable {L:Own} {h:PH} {K:PK}
theorem oneO (o:Option (Nat×Nat))(n:Nat):(ovs o n).oneCell'=true:=Zth o n
theorem Zlo (p q:Ze)(x y:Operand)(K:Value→Prop)(t:Zk K):Jc prog .neq 24 x y (Ud p) (Ud q) K t=K (.bool (!decide (p=q))):=by
 have e:decide (p=q)=decide (YN p++YS p=YN q++YS q):=by
  rw[decide_eq_decide];exact⟨fun h=>by rw[h],Ygr⟩
 rw[e];exact Zgy (T:=24) (ks:=parK) (by kernel_rfl) (by kernel_rfl) (by kernel_rfl) (by kernel_rfl) (YN p++YS p) (YN q++YS q) rfl rfl x y K t
theorem Zp.mono {s:Zd}{D D':Nat}(h:Zp s D)(hd:D≤D'):Zp s D' :=
 ⟨h.r,h.ok,h.ep,h.be,h.ml,h.pl,h.en,h.ex,h.dd,Nat.le_trans h.dn hd,h.oo,h.on,h.mm,h.mn,h.mon,h.top⟩
theorem lv_ml {s:Zd}{t:Int}:(lvS s t).members.length=s.members.length:=by
 have:∀(W:List Int) (x:List Zb×List Zg) k,(lvK t W x k).1.length=x.1.length:=fun W x k=>by
  induction k with
  | zero=>rfl
  | succ k ih=>rw[lvK,G6];simp only[List.length_set];exact ih
 exact this _ _ _
structure Fr (s S:Zd):Prop where
 par:S.par=s.par
 ep:S.ep=s.ep
 k:S.marks=s.marks
 r:S.ring=s.ring
 t:S.motions=s.motions
 o:S.pool=s.pool
 e:S.entry=s.entry
 l:S.members.length=s.members.length
theorem Fr.next {s S S':Zd}(h:Fr s S)(h2:Fr S S'):Fr s S':=⟨h2.par.trans h.par,h2.ep.trans h.ep,h2.k.trans h.k,h2.r.trans h.r,h2.t.trans h.t,h2.o.trans h.o,h2.e.trans h.e,h2.l.trans h.l⟩
theorem Zxd (s:Zd):Fr s (wgS s):=⟨rfl,rfl,rfl,rfl,rfl,rfl,rfl,WW _ _ _⟩
theorem Ybu (s:Zd)(r:Zi):Fr s (mtS s r):=⟨rfl,rfl,rfl,rfl,rfl,rfl,rfl,by
 have:∀(p:Ze) (W:List Nat) (P:List Int) (x:List Zb×List Int) k,(mtK p W P x k).1.length=x.1.length:=fun p W P x k=>by
  induction k with
  | zero=>rfl
  | succ k ih=>rw[mtK,UF];simp only[List.length_set];exact ih
 exact this _ _ _ _ _⟩
theorem Ygi (s:Zd)(r:Zi):Fr s (fnS s r):=⟨rfl,rfl,rfl,rfl,rfl,rfl,rfl,WW _ _ _⟩
theorem Ycf (s:Zd)(t:Int):Fr s (ejS s t s.members.length):=⟨rfl,rfl,rfl,rfl,rfl,rfl,rfl,WJ _ _ _⟩
theorem Ygu (s:Zd)(t:Int):Fr s (lvS s t):=⟨rfl,rfl,rfl,rfl,rfl,rfl,rfl,lv_ml⟩
theorem Ylv (s:Zd)(r:Zi)(t:Int):(enS s r t).par=s.par∧(enS s r t).ep=s.ep∧(enS s r t).marks=s.marks∧(enS s r t).ring=s.ring∧(enS s r t).motions=s.motions:=by
 unfold enS;split
 ·exact⟨rfl,rfl,rfl,rfl,rfl⟩
 ·exact⟨rfl,rfl,rfl,rfl,rfl⟩
theorem J4 {o:Option (Nat×Nat)}{n:Nat}(ho:okO o n):n≤9223372036854775807:=by
 cases o with
 | none=>have:n=0:=ho;omega
 | some p=>have:=ho.2;have:=ho.1;simp only[maxLen]at *;omega
theorem Zrz {s:Zd}(v:SV)(hs:Zr h v s)(few:ZD s)(fd:s.dues.length≤29000)(hf:WK s=true)(he:s.ep<1073741824)(hA1:Y7 s≤140737488355328)(hA8:Y7 (tk8 s).1≤18446744073709551615)
  (hk:∀h' u q,PH.le h h'→Zr h' u (Vp s)→Zx h' q (YF s)→K (.tuple #[stV (Vp s) u,rpV (YF s) q,.int .i64 0]) L h') :
  Zc prog 25 [stV s v] L h K:=by
 have hv0:=hs;have ti:Zp s 29000:=Yhb hs hf he fd;obtain⟨pa,pc,ma,mc,ea,ec,xa,xc,oa,oc,da,dc,ta,tc,ka,kc,ra,rc,rfl⟩:=hs.slices;have fewS:ZB s:=by
  have f1:=few.p;have f2:=few.m;have f3:=few.e;have f4:=few.x;have f5:=few.o;have f6:=few.d;have f7:=few.t;have f8:=few.r
  constructor<;>omega
 have hpc:=Z7 ti.r;have hep:=ti.ep;have hml:=ti.ml;have hw:0≤s.par.wait∧s.par.wait≤1000:=by omega
 have ht:0≤min (s.ep+s.par.wait) 2147483647∧min (s.ep+s.par.wait) 2147483647≤2147483647:=by omega
 obtain⟨t,hte⟩:∃t,t=min (s.ep+s.par.wait) 2147483647:=⟨_,rfl⟩
 rw[← hte]at ht;have hact:0≤Y7 s:=by have:=Vg (ks:=s.marks) ti.be.m;show 0≤U9 s.members;omega
 obtain⟨S2,hS2⟩:∃x,x=wgS s:=⟨_,rfl⟩
 obtain⟨R2,hR2⟩:∃x,x=wgR s (r0P s):=⟨_,rfl⟩
 have e2:tk2 s=(S2,R2):=by rw[hS2,hR2];rfl
 have ti2:Zp S2 29000:=hS2 ▸ Zhd ti;have f2:Fr s S2:=hS2 ▸ Zxd s;have ra2:0≤R2.act∧R2.act≤18446744073709551615:=by rw[hR2];show 0≤Y7 s∧Y7 s≤_;omega
 have rp2:R2.paid=0:=by rw[hR2];rfl
 obtain⟨S3,hS3⟩:∃x,x=mtS S2 R2:=⟨_,rfl⟩
 obtain⟨R3,hR3⟩:∃x,x=mtR S2 R2:=⟨_,rfl⟩
 have e3:tk3 s=(S3,R3):=by rw[hS3,hR3];show (mtS (tk2 s).1 (tk2 s).2,mtR (tk2 s).1 (tk2 s).2)=_;rw[e2]
 have ti3:Zp S3 29000:=hS3 ▸ Zqj ti2 ra2;have f3:Fr s S3:=f2.next (hS3 ▸ Ybu S2 R2);have rb3:R3.burned=0:=by rw[hR3,hR2];rfl
 have rf3:R3.fees=0:=by rw[hR3,hR2];rfl
 obtain⟨S4,hS4⟩:∃x,x=fnS S3 R3:=⟨_,rfl⟩
 obtain⟨R4,hR4⟩:∃x,x=fnR S3 R3 S3.members.length:=⟨_,rfl⟩
 have e4:tk4 s=(S4,R4):=by rw[hS4,hR4];show (fnS (tk3 s).1 (tk3 s).2,fnR (tk3 s).1 (tk3 s).2 (tk3 s).1.members.length)=_;rw[e3]
 have ti4:Zp S4 29000:=hS4 ▸ Ybz ti3 rb3;have f4:Fr s S4:=f3.next (hS4 ▸ Ygi S3 R3);have p4:S4.purses=S3.purses:=by rw[hS4];rfl
 have d4:S4.dues=s.dues:=by rw[hS4,hS3,hS2];rfl
 have x4:S4.exit=s.exit:=by rw[hS4,hS3,hS2];rfl
 have ro4:R4.out=[]∧R4.left=[]∧R4.started=[]∧R4.done=[]:=by rw[hR4,hR3,hR2];exact⟨rfl,rfl,rfl,rfl⟩
 obtain⟨S5,hS5⟩:∃x,x=ejS S4 t S4.members.length:=⟨_,rfl⟩
 obtain⟨R5,hR5⟩:∃x,x=ejR S4 R4 S4.members.length:=⟨_,rfl⟩
 have e5:tk5 s=(S5,R5):=by rw[hS5,hR5];show Zlq (atP s) (tk4 s)=_;rw[e4,show atP s=t from hte.symm];rfl
 have f5:Fr s S5:=f4.next (hS5 ▸ Ycf S4 t);have ti5:Zp S5 29128:=by have:=Zgp ti4 ht (Nat.le_refl S4.members.length);rw[hS5];exact this.mono (by have:=f4.l;omega)
 have p5:S5.purses=S4.purses:=by rw[hS5];rfl
 have ro5:R5.left=[]∧R5.started=[]∧R5.done=[]∧R5.out=ouN S4.par S4.members S4.members.length:=by
  rw[hR5];refine⟨ro4.2.1,ro4.2.2.1,ro4.2.2.2,?_⟩;show R4.out++_=_;rw[ro4.1];rfl
 have ol5:R5.out.length≤128:=by rw[ro5.2.2.2];have:=Zek S4.par S4.members S4.members.length;have:=f4.l;omega
 have ob5:∀z∈R5.out,0≤z∧z<((128:Nat):Int):=by rw[ro5.2.2.2];intro z hz;have:=Ywd S4.par S4.members S4.members.length z hz;have:=f4.l;omega
 obtain⟨S7,hS7⟩:∃x,x=lvS S5 t:=⟨_,rfl⟩
 obtain⟨R7,hR7⟩:∃x,x=lvR S5 R5:=⟨_,rfl⟩
 have e7:tk7 s=(S7,R7):=by rw[hS7,hR7];show (lvS (tk5 s).1 (atP s),lvR (tk5 s).1 (tk5 s).2)=_;rw[e5,show atP s=t from hte.symm]
 have ti7:Zp S7 29192:=hS7 ▸ Ynh ti5 ht;have f7:Fr s S7:=f5.next (hS7 ▸ Ygu S5 t);have ro7:R7.out=R5.out∧R7.left=lvW S5∧R7.started=[]∧R7.done=[]:=by rw[hR7];exact⟨rfl,rfl,ro5.2.1,ro5.2.2.1⟩
 obtain⟨S8,hS8⟩:∃x,x=enS S7 R7 t:=⟨_,rfl⟩
 obtain⟨R8,hR8⟩:∃x,x=enR S7 R7 t:=⟨_,rfl⟩
 have e8:tk8 s=(S8,R8):=by rw[hS8,hR8];show (enS (tk7 s).1 (tk7 s).2 (atP s),enR (tk7 s).1 (tk7 s).2 (atP s))=_;rw[e7,show atP s=t from hte.symm]
 have ti8:Zp S8 29256:=hS8 ▸ Ylx ti7 R7 ht;obtain⟨a8,b8,c8,d8,g8⟩:=Ylv S7 R7 t;rw[← hS8]at a8 b8 c8 d8 g8;have ro8:R8.left=lvW S5∧R8.done=[]∧(∀z∈R8.out,0≤z∧z<((128:Nat):Int))∧(∀z∈R8.started,0≤z∧z<((128:Nat):Int))∧R8.out.length≤300∧R8.started.length≤300:=by
  rw[hR8];unfold enR;split
  ·have hx:=(Yju ti7).1;have hwl:=(en_w ti7).1
   obtain⟨u1,u2,u3,u4⟩:=st_b (p:=S7.par) (t:=t) (n:=128) (by decide) (enW S7) (x:=⟨(enX S7).ms,S7.dues,S7.exit,R7.out,R7.started⟩) (fun z hz=>by
    have h1:=Vi hx.e (List.mem_of_mem_take hz);have h2:(enX S7).ms.length≤128:=hx.l1
    omega) (by rw[ro7.1];exact ob5) (fun z hz=>by rw[ro7.2.2.1]at hz;cases hz) (enW S7).length (Nat.le_refl _)
   simp only[ro7.1,ro7.2.2.1,List.length_nil]at u3 u4;refine⟨ro7.2.1,ro7.2.2.2,u1,u2,?_,?_⟩
   ·show (enY S7 R7 t).out.length≤300;have:(enY S7 R7 t).out.length≤R5.out.length+(enW S7).length:=by rw[enY,ro7.1,ro7.2.2.1];exact u3
    omega
   ·show (enY S7 R7 t).go.length≤300;have:(enY S7 R7 t).go.length≤0+(enW S7).length:=by rw[enY,ro7.1,ro7.2.2.1];exact u4
    omega
  ·exact⟨ro7.2.1,ro7.2.2.2,by rw[ro7.1];exact ob5,(fun z hz=>by rw[ro7.2.2.1]at hz;cases hz),by rw[ro7.1];omega,by rw[ro7.2.2.1];simp⟩
 obtain⟨S9,hS9⟩:∃x,x=moS S8 R8:=⟨_,rfl⟩
 obtain⟨R9,hR9⟩:∃x,x=moR S8 R8:=⟨_,rfl⟩
 have e9:tk9 s=(S9,R9):=by rw[hS9,hR9];show (moS (tk8 s).1 (tk8 s).2,moR (tk8 s).1 (tk8 s).2)=_;rw[e8]
 have ti9:Zp S9 29256:=hS9 ▸ Ydh ti8 R8 (Nat.le_refl _);rw[e8]at hA8;simp only at hA8;refine Z3 func25 rfl (rs:=[_,_,_]) rfl rfl ZW (by kernel_rfl) rfl rfl fun ap nd=>?_;clear ap nd;refine xx ?_;refine Z2 fun b1 nb1 zb1=>?_;(try simp only[ZT]at nb1);refine xx ?_;refine Z2 fun b2 nb2 zb2=>?_;(try simp only[ZT]at nb2);have n21:=nb2.1;refine xx ?_;refine Z2 fun b3 nb3 zb3=>?_;(try simp only[ZT]at nb3);have n32:=nb3.1;have n31:=nb3.2.1;clear nb1 nb2 nb3;refine xx ?_;refine JV (s:=s) ⟨.slice pa s.purses.length pc,.slice ma s.members.length mc,.slice ea s.entry.length ec,.slice xa s.exit.length xc,.slice oa s.pool.length oc,.slice da s.dues.length dc,.slice ta s.motions.length tc,.slice ka s.marks.length kc,.slice ra s.ring.length rc⟩ hs fewS ?_;rw[hf];refine xx ?_;refine Yn (.tk 2 (.tk 5 (.tk 6 (.tkl 0 (.tkl 3 (.tk 4 (.tkl 7 (.o1 1 (.tk 8 (.o1 9 (.tk 10 (.fin)) (.nil))) (.nil))))))))) (by kernel_rfl) (by kernel_rfl) _ (Za.refl _ _) ?_;refine xx ?_;refine Zoe (s:=s) ⟨.slice pa s.purses.length pc,.slice ma s.members.length mc,.slice ea s.entry.length ec,.slice xa s.exit.length xc,.slice oa s.pool.length oc,.slice da s.dues.length dc,.slice ta s.motions.length tc,.slice ka s.marks.length kc,.slice ra s.ring.length rc⟩ hs few fun h1 u om oe ox le1 okm oke okx i1=>?_
 first
 | refine xkp ((Za.oent _ _ _ _ _ _).trans ((Za.oent _ _ _ _ _ _).trans ((Za.oent _ _ _ _ _ _).trans (Za.forget le1)))) ?_
 | skip
 refine xx ?_;refine Z2 fun b5 nb5 zb5=>?_;(try simp only[ZT]at nb5);have n5:=Ya (Ya (Ya nb5));simp only[ZT]at n5;have n53:=n5.1;have n52:=n5.2.1;have n51:=n5.2.2.1;clear nb5 n5;obtain⟨up,um,ue,ux,uo,ud,ut,uk,ur⟩:=u;obtain⟨iok,ip,_,_,_,_,io,ioo,idd,iddo,it,ik,ir⟩:=i1;simp only[Yhx]at ip io ioo idd iddo it ik ir;obtain⟨upa,upc,rfl,_⟩:=ip.open;obtain⟨uoa,uoc,rfl,_⟩:=io.open;obtain⟨uda,udc,rfl,_⟩:=idd.open;obtain⟨uka,ukc,rfl,_⟩:=ik.open;obtain⟨uq,it1,it2,it3⟩:=it;obtain⟨uta,utc,rfl,_⟩:=it1.open;obtain⟨uqr,ir1,ir2⟩:=ir;obtain⟨ura,urc,rfl,_⟩:=ir1.open;have hqm:uq.length=s.motions.length:=by rw[← it2,List.length_map]
 have hqr:uqr.length=s.ring.length:=by rw[← ir2,Vk]
 rw[hqm]at it1 ⊢;rw[hqr]at ir1 ⊢;refine xx ?_;refine xkp ((Za.tail _ _ _).trans ((Za.oent _ _ _ _ _ _).trans ((Za.oent _ _ _ _ _ _).trans ((Za.oent _ _ _ _ _ _).trans (Za.forget le1))))) ?_;refine xx ?_;obtain⟨N,hN⟩:∃N,N=s.members.length:=⟨_,rfl⟩
 obtain⟨V0,hV0⟩:∃V0:SV,V0=⟨.slice upa s.purses.length upc,ovs om s.members.length,ovs oe s.entry.length,ovs ox s.exit.length,.slice uoa s.pool.length uoc,.slice uda s.dues.length udc,.slice uta s.motions.length utc,.slice uka s.marks.length ukc,.slice ura s.ring.length urc⟩:=⟨_,rfl⟩
 refine Zc.fin (Zc.weaken (Za.perm _ Yqn) (Zoq (s:=s) (v:=⟨.slice upa s.purses.length upc,ovs om s.members.length,ovs oe s.entry.length,ovs ox s.exit.length,.slice uoa s.pool.length uoc,.slice uda s.dues.length udc,.slice uta s.motions.length utc,.slice uka s.marks.length ukc,.slice ura s.ring.length urc⟩) (r:=r0P s) (q:=⟨.slice none 0 0,.slice none 0 0,.slice none 0 0,.slice none 0 0⟩) (w:=s.par.wait) (om:=om) ti hA1 ik rfl okm fun h2 le2=>ZO ?_));rw[← hS2,← hR2];refine xx ?_;have one:∀(a b c d e:Value),a.oneCell'=true→b.oneCell'=true→c.oneCell'=true→d.oneCell'=true→e.oneCell'=true→∀(n1 n2 n3:Nat) (f:Value),f.oneCell'=true→Yit ⟨a,ovs om n1,ovs oe n2,ovs ox n3,b,c,d,e,f⟩:=fun a b c d e ha hb hc hd he n1 n2 n3 f hf=>⟨ha,oneO _ _,oneO _ _,oneO _ _,hb,hc,hd,he,hf⟩
 have p2:S2.purses=s.purses:=by rw[hS2];rfl
 refine Ztp (s:=S2) (v:=⟨.slice upa s.purses.length upc,ovs om s.members.length,ovs oe s.entry.length,ovs ox s.exit.length,.slice uoa s.pool.length uoc,.slice uda s.dues.length udc,.slice uta s.motions.length utc,.slice uka s.marks.length ukc,.slice ura s.ring.length urc⟩) (om:=om) ti2 ra2 rp2 (one _ _ _ _ _ rfl rfl rfl rfl rfl _ _ _ _ rfl) (by rw[p2];exact ip.up le2) (by rw[f2.k];exact ik.up le2) (by rw[f2.l]) (by rw[f2.l];exact okm) fun h3 pv3 le3 i3=>?_;rw[← hS3]at i3;rw[← hS3,← hR3];obtain⟨pa3,pc3,rfl,_⟩:=i3.open;have le13:=le2.trans le3;refine xx ?_;refine Zos (s:=S3) (v:=⟨.slice pa3 S3.purses.length pc3,ovs om s.members.length,ovs oe s.entry.length,ovs ox s.exit.length,.slice uoa s.pool.length uoc,.slice uda s.dues.length udc,.slice uta s.motions.length utc,.slice uka s.marks.length ukc,.slice ura s.ring.length urc⟩) (om:=om) ti3 rb3 rf3 (one _ _ _ _ _ rfl rfl rfl rfl rfl _ _ _ _ rfl) (by rw[f3.k];exact ik.up le13) (by rw[f3.l]) (by rw[f3.l];exact okm) ?_;rw[← hS4,← hR4,← x4];refine xx ?_;refine Zc.fin (Zc.weaken (Za.perm _ Yeo) (Zcq (s:=S4) (v:=⟨.slice pa3 S3.purses.length pc3,ovs om s.members.length,ovs oe s.entry.length,ovs ox S4.exit.length,.slice uoa s.pool.length uoc,.slice uda s.dues.length udc,.slice uta s.motions.length utc,.slice uka s.marks.length ukc,.slice ura s.ring.length urc⟩) (om:=om) (oo:=none) (ox:=ox) ti4 (by decide) (by rw[d4];exact idd.up le13) (by rw[f4.l]) (by rw[f4.l];exact okm) hw rfl (by rw[x4];exact okx) rfl (by rw[ro4.1];rfl) (by rw[ro4.1];simp) fun h5 dv5 oo5 le5 i5 ok5=>ZO ?_));rw[f4.ep,← hte,← hS5]at i5;rw[← hR5]at ok5;rw[f4.ep,← hte,← hS5,← hR5];obtain⟨da5,dc5,rfl,_⟩:=i5.open;have le15:=le13.trans le5;have okx5:okO ox S5.exit.length:=Zlw okx (by rw[hS5,← x4];exact Zdl _ _ _ _);refine xx ?_
 refine Zc.fin (Zc.weaken (Za.perm _ Ymp) (Zqm (s:=S5) (v:=⟨.slice pa3 S3.purses.length pc3,ovs om s.members.length,ovs oe s.entry.length,ovs ox S5.exit.length,.slice uoa s.pool.length uoc,.slice da5 S5.dues.length dc5,.slice uta s.motions.length utc,.slice uka s.marks.length ukc,.slice ura s.ring.length urc⟩) (om:=om) (ox:=ox) ti5 (by decide) hw (by rw[p5,p4];exact i3.up le5) i5 (by rw[f5.l]) (by rw[f5.l];exact okm) rfl okx5 fun h7 xo pv7 dv7 lv7 le7 okx7 i7p i7d i7l=>ZO ?_));rw[f5.ep,← hte,← hS7]at okx7 i7p i7d;rw[f5.ep,← hte,← hS7,← hR7];obtain⟨pa7,pc7,rfl,_⟩:=i7p.open;obtain⟨da7,dc7,rfl,_⟩:=i7d.open;obtain⟨la7,lc7,rfl,_⟩:=i7l.open;have le17:=le15.trans le7;refine xx ?_;rw[← f7.e,← ro7.1];refine Zc.fin (Zc.weaken (Za.perm _ Ysr) (Zpa (s:=S7) (v:=⟨.slice pa7 S7.purses.length pc7,ovs om s.members.length,ovs oe S7.entry.length,ovs xo S7.exit.length,.slice uoa s.pool.length uoc,.slice da7 S7.dues.length dc7,.slice uta s.motions.length utc,.slice uka s.marks.length ukc,.slice ura s.ring.length urc⟩) (om:=om) (oe:=oe) (os:=none) (oo:=oo5) (ox:=xo) (r:=R7) ti7 (by decide) hw (by rw[ro7.1];omega) (by rw[ro7.2.2.1];simp) i7p i7d (by rw[f7.o];exact io.up le17) (by rw[f7.l]) (by rw[f7.l];exact okm) rfl (by rw[f7.e];exact oke) rfl okx7 rfl (by rw[ro7.1];exact ok5) rfl (by rw[ro7.2.2.1];rfl) fun h8 pv8 dv8 ov8 om8 oe8 os8 oo8 le8 i8p i8d i8o okm8 oke8 oks8 oko8 okx8=>ZO ?_));rw[f7.ep,← hte,← hS8]at i8p i8d i8o okm8 oke8 okx8;rw[f7.ep,← hte,← hR8]at oks8 oko8;rw[f7.ep,← hte,← hS8,← hR8];obtain⟨pa8,pc8,rfl,_⟩:=i8p.open;obtain⟨da8,dc8,rfl,_⟩:=i8d.open;obtain⟨oa8,oc8,rfl,_⟩:=i8o.open;have le18:=le17.trans le8;refine xx ?_
 refine Zc.fin (Zc.weaken (Za.perm _ Yeo) (Zc.apn (Zpe (s:=S8) (v:=⟨.slice pa8 S8.purses.length pc8,ovs om8 S8.members.length,ovs oe8 S8.entry.length,ovs xo S8.exit.length,.slice oa8 S8.pool.length oc8,.slice da8 S8.dues.length dc8,.slice uta s.motions.length utc,.slice uka s.marks.length ukc,.slice ura s.ring.length urc⟩) (om:=om8) (od:=none) (r:=R8) ti8 hA8 (by rw[ro8.2.1];simp) i8p ⟨uq,it1.up le18,it2.trans (g8.trans f7.t).symm,fun x hx=>(it3 x hx).up le18⟩ rfl okm8 rfl (by rw[ro8.2.1];rfl) fun h9 pv9 tv9 od9 le9 i9p i9t okd9 ap nd=>⟨_,_,Za.perm _ Yqh,?_⟩)));have hb5:h9 b5=noC:=ap.1;obtain⟨hb3,hb2,hb1,_⟩:=Ap.oent (Ap.oent (Ap.oent (Ap.oent (Ap.oent (Ap.oent ap.2)))));simp only at hb3 hb2 hb1;clear ap nd;rw[← hS9]at i9p i9t;rw[← hR9]at okd9;rw[← hS9,← hR9];have m9:S9.members=S8.members:=by rw[hS9];rfl
 have en9:S9.entry=S8.entry:=by rw[hS9];rfl
 have x9:S9.exit=S8.exit:=by rw[hS9];rfl
 have d9:S9.dues=S8.dues:=by rw[hS9];rfl
 have o9:S9.pool=S8.pool:=by rw[hS9];rfl
 have k9:S9.marks=s.marks:=by rw[hS9];exact c8.trans f7.k
 have r9:S9.ring=s.ring:=by rw[hS9];exact d8.trans f7.r
 have ep9:S9.ep=s.ep:=by rw[hS9];exact b8.trans f7.ep
 have ro9:R9.out=R8.out∧R9.left=R8.left∧R9.started=R8.started:=by rw[hR9];exact⟨rfl,rfl,rfl⟩
 have dn9:(∀z∈R9.done,0≤z∧z<((128:Nat):Int)):=by
  rw[hR9];have hmn:=ti8.mn;have hL:(moL S8).length=S8.motions.length:=List.length_map _;exact Yqm (by decide) (fun z hz=>by have:=(Zna (s:=S8) R8).2 z hz;omega) (fun z hz=>by rw[ro8.2.1]at hz;cases hz) _ (Nat.le_refl _)
 rw[← m9]at okm8;rw[← en9]at oke8;rw[← x9]at okx8;rw[← ro9.1]at oko8;rw[← ro9.2.2]at oks8;rw[← m9,← en9,← x9,← ro9.1,← ro9.2.2];obtain⟨pa9,pc9,rfl,_⟩:=i9p.open;obtain⟨q9,i9t1,i9t2,i9t3⟩:=i9t;obtain⟨ta9,tc9,rfl,_⟩:=i9t1.open;have le19:=le18.trans le9;have i8d9:Zh Yz 3 h9 (.slice da8 S8.dues.length dc8) S9.dues:=by rw[d9];exact i8d.up le9
 have i8o9:Zh Zaf 4 h9 (.slice oa8 S8.pool.length oc8) S9.pool:=by rw[o9];exact i8o.up le9
 refine xx ?_;refine Yn (.tk 0 (.tk 1 (.tk 2 (.tk 3 (.tk 5 (.tkl 4 (.tkl 6 (.tk 7 (.fin))))))))) (by kernel_rfl) (by kernel_rfl) _ (Za.refl _ _) ?_;simp -dsimp -implicitDefEqProofs (disch:=first|with_reducible assumption|omega) [go_sem,Zlo];refine VI (fun c=>?_) (fun c=>?_)
 ·have e10:Vx s=(S9,R9):=by rw[Vx,e9,if_pos c]
  have eT:Vp s=seS S9:=by rw[Vp,e10]
  have eR:YF s=R9:=by rw[YF,e10]
  have tiE:Zp S9 29400:=ti9.mono (by decide);have iP:=i9p;have iD:=i8d9;have kE:=k9;have rE:=r9;have mE:S9.motions=S9.motions:=rfl;have oE:S9.pool=S9.pool:=rfl;have nE:S9.entry=S9.entry:=rfl;have okmE:=okm8;have okxE:=okx8;have okoE:=oko8;have obE:∀z∈R9.out,0≤z∧z<((128:Nat):Int):=by rw[ro9.1];exact ro8.2.2.1
  have olE:R9.out.length≤1000:=by rw[ro9.1];omega
  have leE:=le19;have leE9:=PH.le_refl h9;have lE:R9.left=lvW S5∧R9.started=R9.started∧R9.done=R9.done:=⟨ro9.2.1.trans ro8.1,rfl,rfl⟩
  refine xx ?_;have ml10:S9.members.length≤128:=tiE.ml;have lenS:(seS S9).members.length=S9.members.length:=WJ _ _ _;refine Zc.fin (Zc.weaken (Za.perm _ Ycu) (Zc.apn (G4 (s:=S9) (v:=⟨.slice pa9 S9.purses.length pc9,ovs om8 S9.members.length,ovs oe8 S9.entry.length,ovs xo S9.exit.length,.slice oa8 S8.pool.length oc8,.slice da8 S8.dues.length dc8,.slice ta9 q9.length tc9,.slice uka s.marks.length ukc,.slice ura s.ring.length urc⟩) (om:=om8) (r:=R9) (q:=⟨ovs oo8 R9.out.length,.slice la7 (lvW S5).length lc7,ovs os8 R9.started.length,ovs od9 R9.done.length⟩) tiE (by rw[kE];exact ik.up leE) ⟨uqr,ir1.up leE,ir2.trans rE.symm⟩ (by rw[rE];exact few.r) (by rw[rE];exact few.b) (by rw[kE];exact few.k) rfl okmE fun hz kvz rvz lez iz1 iz2 ap nd=>?_)));obtain⟨kza,kzc,rfl,_⟩:=iz1.open;obtain⟨qz,z1,z2⟩:=iz2;obtain⟨rza,rzc,rfl,_⟩:=z1.open;have ap:=Ap.perm Zcb ap;have nd:=Nd.perm Zcb nd;have eln:=V5 tiE.en;have elx:=V5 tiE.ex;obtain⟨g1,l1,dr1,sl1,ap,nd⟩:=Ul (n:=(seS S9).members.length) (by rw[lenS];exact okmE) (Z0 Yg _) (by omega) ap nd;obtain⟨g2,l2,dr2,sl2,ap,nd⟩:=Ul (n:=R9.out.length) (sz:=1) okoE (by simp) (by omega) ap nd;obtain⟨g3,l3,dr3,sl3,ap,nd⟩:=Ul (n:=S9.exit.length) (sz:=1) okxE (by simp) (by omega) ap nd;obtain⟨g4,l4,dr4,sl4,ap,nd⟩:=Ul (n:=R9.done.length) (sz:=1) okd9 (by simp) (J4 okd9) ap nd;obtain⟨g5,l5,dr5,sl5,ap,nd⟩:=Ul (n:=S9.entry.length) (sz:=1) oke8 (by simp) (J4 oke8) ap nd;obtain⟨g6,l6,dr6,sl6,ap,nd⟩:=Ul (n:=R9.started.length) (sz:=1) oks8 (by simp) (J4 oks8) ap nd;refine⟨_,_,(Za.perm _ Zcb).trans (dr1.trans (dr2.trans (dr3.trans (dr4.trans (dr5.trans dr6))))),?_⟩;obtain⟨hc5,hc3,hc2,hc1,_⟩:=ap;simp only at hc5 hc3 hc2 hc1;clear nd dr1 dr2 dr3 dr4 dr5 dr6;have m56:=l5.trans l6;have m46:=l4.trans m56;have m36:=l3.trans m46;have m26:=l2.trans m36;have mz6:=lez.trans (l1.trans m26)
  have hIS:Zr g6 ⟨.slice pa9 S9.purses.length pc9,ovs om8 S9.members.length,ovs oe8 S9.entry.length,ovs xo S9.exit.length,.slice oa8 S8.pool.length oc8,.slice da8 S8.dues.length dc8,.slice ta9 q9.length tc9,.slice kza (List.replicate 16 (0:Int)).length kzc,.slice rza qz.length rzc⟩ (Vp s):=by
   rw[eT];have hn:=tiE.ok.n;have hp1:=tiE.ep;simp only[List.forall_mem_cons]at hn;refine⟨⟨tiE.ok.p,tiE.ok.u,?_⟩,iP.up mz6,?_,?_,?_,?_,?_,fun x hx=>(tiE.oo x hx).1,iD.up mz6,fun x hx=>(tiE.dd x hx).1,⟨q9,i9t1.up (leE9.trans mz6),i9t2.trans mE.symm,fun x hx=>(i9t3 x hx).up (leE9.trans mz6)⟩,iz1.up (l1.trans m26),?_⟩
   ·show ∀z∈[S9.ep+1,S9.calm],_;simp only[List.forall_mem_cons];exact⟨by omega,hn.2⟩
   ·have:=Zh.pub (f:=Yv) (w:=6) (l:=(seS S9).members) (o:=om8) Yg (sl1.up m26);rw[lenS]at this;exact this
   ·exact Zhs Zf (fun m hm=>Zkl tiE.ok.p tiE.r hm) tiE.be.m _ (Nat.le_refl _)
   ·exact UT (st:=1) (by show Jd S9.members S9.entry 1;exact tiE.en) ml10 (by show Sl _ _ S9.entry.length 1 (S9.entry.map _);rw[nE];exact sl5.up l6)
   ·exact UT (st:=3) (by show Jd S9.members S9.exit 3;exact tiE.ex) ml10 (sl3.up m46)
   ·show Zh Zaf 4 g6 _ S9.pool;rw[oE];exact i8o9.up (leE9.trans mz6)
   ·exact⟨qz,z1.up (l1.trans m26),z2⟩
  have hRP:Zx g6 ⟨ovs oo8 R9.out.length,.slice la7 (lvW S5).length lc7,ovs os8 R9.started.length,ovs od9 R9.done.length⟩ (YF s):=by
   rw[eR];refine⟨Yjl (sl2.up m36) fun z hz=>by have:=obE z hz;omega,by rw[lE.1];exact i7l.up ((le8.trans (le9.trans leE9)).trans mz6),?_,?_⟩
   ·rw[lE.2.1];exact Yjl sl6 fun z hz=>by have:=ro8.2.2.2.1 z (by rw[← ro9.2.2];exact hz);omega
   ·rw[lE.2.2];exact Yjl (sl4.up m56) fun z hz=>by have:=dn9 z hz;omega
  have hk:=hk g6 _ _ (le1.trans (leE.trans mz6)) hIS hRP;rw[eT,eR]at hk;refine xx ?_;refine Yn (.tk 0 (.tk 1 (.tk 2 (.tk 4 (.tk 5 (.tk 6 (.tkl 3 (.o1 7 (.o2 8 (.o2 9 (.tk 10 (.fin)) (.nil)) (.nil)) (.o2 8 (.o1 7 (.o2 9 (.tk 10 (.fin)) (.nil)) (.nil)) (.nil)))))))))) (by kernel_rfl) (by kernel_rfl) _ (Za.refl _ _) ?_
  repeat' first
   | with_reducible refine Y4 ?_ ?_
   | simp -dsimp -implicitDefEqProofs (disch:=first|with_reducible assumption|omega) [go_sem]
   | fail
  all_goals exact ZP (ZP (ZP (ZP (ZO hk))))
 ·have e10:Vx s=Zlq t (ajS S9,R9):=by rw[Vx,e9,if_neg c,show atP s=t from hte.symm]
  refine xx ?_;refine Zc.fin (Zc.weaken (Za.perm _ permT5) (Zjc (s:=S9) (v:=⟨.slice pa9 S9.purses.length pc9,ovs om8 S9.members.length,ovs oe8 S9.entry.length,ovs xo S9.exit.length,.slice oa8 S8.pool.length oc8,.slice da8 S8.dues.length dc8,.slice ta9 q9.length tc9,.slice uka s.marks.length ukc,.slice ura s.ring.length urc⟩) (om:=om8) (oo:=oo8) (ox:=xo) (r:=R9) (q:=⟨ovs oo8 R9.out.length,.slice la7 (lvW S5).length lc7,ovs os8 R9.started.length,ovs od9 R9.done.length⟩) ti9 (by decide) i9p i8d9 rfl okm8 hw rfl okx8 rfl oko8 (by rw[ro9.1];omega) fun h10 pv10 d10 oo10 le10 i10p i10d ok10=>⟨_,_,Za.perm _ permT5.symm,?_⟩));rw[ep9,← hte]at i10d ⊢;have tiE:Zp (ejS (ajS S9) t (ajS S9).members.length) 29400:=by
   have h1:Zp (ajS S9) 29256:=Zrt ti9 (Nat.le_refl _);exact(Zgp h1 ht (Nat.le_refl _)).mono (by have:=h1.ml;omega)
  have l10:(ejS (ajS S9) t (ajS S9).members.length).members.length=S9.members.length:=(Ycf (ajS S9) t).l.trans (V7 S9.par (S9.members,S9.purses) S9.members.length).1;have x10:(ejS (ajS S9) t (ajS S9).members.length).exit.length≤S9.exit.length:=Zdl _ _ _ _;have ou10:(ejR (ajS S9) R9 (ajS S9).members.length).out=R9.out++ouN (ajS S9).par (ajS S9).members (ajS S9).members.length:=rfl;have la10:(ajS S9).members.length≤128:=by rw[show (ajS S9).members.length=S9.members.length from(V7 S9.par (S9.members,S9.purses) S9.members.length).1];exact ti9.ml
  obtain⟨S10,hS10⟩:∃x,x=ejS (ajS S9) t (ajS S9).members.length:=⟨_,rfl⟩
  obtain⟨R10,hR10⟩:∃x,x=ejR (ajS S9) R9 (ajS S9).members.length:=⟨_,rfl⟩
  rw[← hS10]at i10d tiE l10 x10;rw[← hR10]at ok10 ou10;rw[← hS10,← hR10];have eT:Vp s=seS S10:=by rw[Vp,e10,hS10];rfl
  have eR:YF s=R10:=by rw[YF,e10,hR10];rfl
  have eP10:(ajS S9).purses=S10.purses:=by rw[hS10];rfl
  rw[eP10]at i10p;obtain⟨pa10,pc10,rfl,_⟩:=i10p.open;obtain⟨da10,dc10,rfl,_⟩:=i10d.open;have iP:=i10p;have iD:=i10d;have kE:S10.marks=s.marks:=by rw[hS10];exact k9
  have rE:S10.ring=s.ring:=by rw[hS10];exact r9
  have mE:S10.motions=S9.motions:=by rw[hS10];rfl
  have oE:S10.pool=S9.pool:=by rw[hS10];rfl
  have nE:S10.entry=S9.entry:=by rw[hS10];rfl
  have okmE:okO om8 S10.members.length:=by rw[l10];exact okm8
  have okxE:okO xo S10.exit.length:=Zlw okx8 x10;have okoE:=ok10;have obE:∀z∈R10.out,0≤z∧z<((128:Nat):Int):=fun z hz=>by
   rw[ou10]at hz;rcases List.mem_append.1 hz with hz|hz
   ·rw[ro9.1]at hz;exact ro8.2.2.1 z hz
   ·have:=Ywd _ _ _ z hz;omega
  have olE:R10.out.length≤1000:=by
   rw[ou10,List.length_append,ro9.1];have:=Zek (ajS S9).par (ajS S9).members (ajS S9).members.length;omega
  have leE:=le19.trans le10;have leE9:=le10;have lE:R10.left=lvW S5∧R10.started=R9.started∧R10.done=R9.done:=by rw[hR10];exact⟨ro9.2.1.trans ro8.1,rfl,rfl⟩
  refine xx ?_;have ml10:S10.members.length≤128:=tiE.ml;have lenS:(seS S10).members.length=S10.members.length:=WJ _ _ _;refine Zc.fin (Zc.weaken (Za.perm _ Ycu) (Zc.apn (G4 (s:=S10) (v:=⟨.slice pa10 S10.purses.length pc10,ovs om8 S9.members.length,ovs oe8 S9.entry.length,ovs xo S10.exit.length,.slice oa8 S8.pool.length oc8,.slice da10 S10.dues.length dc10,.slice ta9 q9.length tc9,.slice uka s.marks.length ukc,.slice ura s.ring.length urc⟩) (om:=om8) (r:=R10) (q:=⟨ovs oo10 R10.out.length,.slice la7 (lvW S5).length lc7,ovs os8 R9.started.length,ovs od9 R9.done.length⟩) tiE (by rw[kE];exact ik.up leE) ⟨uqr,ir1.up leE,ir2.trans rE.symm⟩ (by rw[rE];exact few.r) (by rw[rE];exact few.b) (by rw[kE];exact few.k) (by rw[l10]) okmE fun hz kvz rvz lez iz1 iz2 ap nd=>?_)));obtain⟨kza,kzc,rfl,_⟩:=iz1.open;obtain⟨qz,z1,z2⟩:=iz2;obtain⟨rza,rzc,rfl,_⟩:=z1.open;have ap:=Ap.perm Zcb ap;have nd:=Nd.perm Zcb nd;have eln:=V5 tiE.en;have elx:=V5 tiE.ex;obtain⟨g1,l1,dr1,sl1,ap,nd⟩:=Ul (n:=(seS S10).members.length) (by rw[lenS];exact okmE) (Z0 Yg _) (by omega) ap nd;obtain⟨g2,l2,dr2,sl2,ap,nd⟩:=Ul (n:=R10.out.length) (sz:=1) okoE (by simp) (by omega) ap nd;obtain⟨g3,l3,dr3,sl3,ap,nd⟩:=Ul (n:=S10.exit.length) (sz:=1) okxE (by simp) (by omega) ap nd;obtain⟨g4,l4,dr4,sl4,ap,nd⟩:=Ul (n:=R9.done.length) (sz:=1) okd9 (by simp) (J4 okd9) ap nd;obtain⟨g5,l5,dr5,sl5,ap,nd⟩:=Ul (n:=S9.entry.length) (sz:=1) oke8 (by simp) (J4 oke8) ap nd;obtain⟨g6,l6,dr6,sl6,ap,nd⟩:=Ul (n:=R9.started.length) (sz:=1) oks8 (by simp) (J4 oks8) ap nd;refine⟨_,_,(Za.perm _ Zcb).trans (dr1.trans (dr2.trans (dr3.trans (dr4.trans (dr5.trans dr6))))),?_⟩;obtain⟨hc5,hc3,hc2,hc1,_⟩:=ap;simp only at hc5 hc3 hc2 hc1;clear nd dr1 dr2 dr3 dr4 dr5 dr6;have m56:=l5.trans l6;have m46:=l4.trans m56;have m36:=l3.trans m46;have m26:=l2.trans m36;have mz6:=lez.trans (l1.trans m26)
  have hIS:Zr g6 ⟨.slice pa10 S10.purses.length pc10,ovs om8 S9.members.length,ovs oe8 S9.entry.length,ovs xo S10.exit.length,.slice oa8 S8.pool.length oc8,.slice da10 S10.dues.length dc10,.slice ta9 q9.length tc9,.slice kza (List.replicate 16 (0:Int)).length kzc,.slice rza qz.length rzc⟩ (Vp s):=by
   rw[eT];have hn:=tiE.ok.n;have hp1:=tiE.ep;simp only[List.forall_mem_cons]at hn;refine⟨⟨tiE.ok.p,tiE.ok.u,?_⟩,iP.up mz6,?_,?_,?_,?_,?_,fun x hx=>(tiE.oo x hx).1,iD.up mz6,fun x hx=>(tiE.dd x hx).1,⟨q9,i9t1.up (leE9.trans mz6),i9t2.trans mE.symm,fun x hx=>(i9t3 x hx).up (leE9.trans mz6)⟩,iz1.up (l1.trans m26),?_⟩
   ·show ∀z∈[S10.ep+1,S10.calm],_;simp only[List.forall_mem_cons];exact⟨by omega,hn.2⟩
   ·have:=Zh.pub (f:=Yv) (w:=6) (l:=(seS S10).members) (o:=om8) Yg (sl1.up m26);rw[lenS]at this;exact(by rw[l10]at this;exact this)
   ·exact Zhs Zf (fun m hm=>Zkl tiE.ok.p tiE.r hm) tiE.be.m _ (Nat.le_refl _)
   ·exact UT (st:=1) (by show Jd S10.members S10.entry 1;exact tiE.en) ml10 (by show Sl _ _ S10.entry.length 1 (S10.entry.map _);rw[nE];exact sl5.up l6)
   ·exact UT (st:=3) (by show Jd S10.members S10.exit 3;exact tiE.ex) ml10 (sl3.up m46)
   ·show Zh Zaf 4 g6 _ S10.pool;rw[oE];exact i8o9.up (leE9.trans mz6)
   ·exact⟨qz,z1.up (l1.trans m26),z2⟩
  have hRP:Zx g6 ⟨ovs oo10 R10.out.length,.slice la7 (lvW S5).length lc7,ovs os8 R9.started.length,ovs od9 R9.done.length⟩ (YF s):=by
   rw[eR];refine⟨Yjl (sl2.up m36) fun z hz=>by have:=obE z hz;omega,by rw[lE.1];exact i7l.up ((le8.trans (le9.trans leE9)).trans mz6),?_,?_⟩
   ·rw[lE.2.1];exact Yjl sl6 fun z hz=>by have:=ro8.2.2.2.1 z (by rw[← ro9.2.2];exact hz);omega
   ·rw[lE.2.2];exact Yjl (sl4.up m56) fun z hz=>by have:=dn9 z hz;omega
  have hk:=hk g6 _ _ (le1.trans (leE.trans mz6)) hIS hRP;rw[eT,eR]at hk;refine xx ?_;refine Yn (.tk 0 (.tk 1 (.tk 2 (.tk 4 (.tk 5 (.tk 6 (.tkl 3 (.o1 7 (.o2 8 (.o2 9 (.tk 10 (.fin)) (.nil)) (.nil)) (.o2 8 (.o1 7 (.o2 9 (.tk 10 (.fin)) (.nil)) (.nil)) (.nil)))))))))) (by kernel_rfl) (by kernel_rfl) _ (Za.refl _ _) ?_
  repeat' first
   | with_reducible refine Y4 ?_ ?_
   | simp -dsimp -implicitDefEqProofs (disch:=first|with_reducible assumption|omega) [go_sem]
   | fail
  all_goals exact ZP (ZP (ZP (ZP (ZO hk))))
theorem Ygy {s:Zd}{D:Nat}(ti:Zp s D)(ms:∀m∈s.members,MI s.par m):Zp (tk7 s).1 (D+192)∧Fr s (tk7 s).1∧Zp (tk8 s).1 (D+256)∧(∀m∈(tk8 s).1.members,MI s.par m∧MF s.par m)∧(tk8 s).1.par=s.par∧(tk8 s).1.ep=s.ep∧(tk8 s).1.members.length≤128:=by
 have hpc:=Z7 ti.r;have hep:=ti.ep;have hml:=ti.ml;have hA:=JI ti.ml ms;have ht:0≤atP s∧atP s≤2147483647:=by unfold atP;omega
 have hact:0≤Y7 s∧Y7 s≤18446744073709551615:=by
  have:=Vg (ks:=s.marks) ti.be.m;have e:Y7 s=U9 s.members:=rfl;omega
 have ti2:Zp (tk2 s).1 D:=Zhd ti;have f2:Fr s (tk2 s).1:=Zxd s;have m2:∀m∈(tk2 s).1.members,MI s.par m:=wg_ms ti ms;have ra2:0≤(tk2 s).2.act∧(tk2 s).2.act≤18446744073709551615:=hact;obtain⟨S2,hS2⟩:∃x,x=(tk2 s).1:=⟨_,rfl⟩
 obtain⟨R2,hR2⟩:∃x,x=(tk2 s).2:=⟨_,rfl⟩
 have rb2:R2.burned=0:=by rw[hR2];rfl
 have e3:tk3 s=(mtS S2 R2,mtR S2 R2):=by rw[hS2,hR2];rfl
 rw[← hS2]at ti2 f2 m2;rw[← hR2]at ra2;have ti3:=Zqj ti2 ra2;have f3:=f2.next (Ybu S2 R2);have m3:∀m∈(mtS S2 R2).members,MI s.par m:=by
  rw[← f2.par]at m2 ⊢;exact You ti2 ra2 m2 _ (Nat.le_refl _)
 have rb3:(mtR S2 R2).burned=0:=rb2;obtain⟨S3,hS3⟩:∃x,x=mtS S2 R2:=⟨_,rfl⟩
 obtain⟨R3,hR3⟩:∃x,x=mtR S2 R2:=⟨_,rfl⟩
 rw[← hS3]at ti3 f3 m3 e3;rw[← hR3]at rb3 e3;have e4:tk4 s=(fnS S3 R3,fnR S3 R3 S3.members.length):=by unfold tk4;rw[e3]
 have ti4:=Ybz ti3 rb3;have f4:=f3.next (Ygi S3 R3);have m4:∀m∈(fnS S3 R3).members,MI s.par m:=by
  rw[← f3.par]at m3 ⊢;exact fn_ms ti3 R3 m3
 obtain⟨S4,hS4⟩:∃x,x=fnS S3 R3:=⟨_,rfl⟩
 rw[← hS4]at ti4 f4 m4 e4;have e5:(tk5 s).1=ejS S4 (atP s) S4.members.length:=by unfold tk5;rw[e4];rfl
 have ti5:=Zgp ti4 ht (Nat.le_refl S4.members.length);have f5:=f4.next (Ycf S4 (atP s));have m5:∀m∈(ejS S4 (atP s) S4.members.length).members,MI s.par m∧MF s.par m:=by
  rw[← f4.par]at m4 ⊢;exact Yti ti4.r _ m4
 rw[← e5]at ti5 f5 m5;have l4:=f4.l;have ti7:Zp (tk7 s).1 (D+192):=(Ynh ti5 ht).mono (by omega);have f7:Fr s (tk7 s).1:=f5.next (Ygu (tk5 s).1 (atP s));have m7:∀m∈(tk7 s).1.members,MI s.par m∧MF s.par m:=by
  rw[← f5.par]at m5 ⊢;exact Yod ti5.r (atP s) _ m5 _
 have ti8:Zp (tk8 s).1 (D+256):=Ylx ti7 (tk7 s).2 ht;have m8:∀m∈(tk8 s).1.members,MI s.par m∧MF s.par m:=by
  rw[← f7.par]at m7 ⊢;exact en_ms ti7 (tk7 s).2 (atP s) m7
 obtain⟨a8,b8,_⟩:=Ylv (tk7 s).1 (tk7 s).2 (atP s);exact⟨ti7,f7,ti8,m8,a8.trans f7.par,b8.trans f7.ep,ti8.ml⟩
structure Rs (a b:Zi):Prop where
 ep:b.ep=a.ep
 mode:b.mode=a.mode
 quo:b.quo=a.quo
 pres:b.pres=a.pres
 act:b.act=a.act
 mint:b.mint=a.mint
 paid:b.paid=a.paid
 kept:b.kept=a.kept
theorem Rs.next {a b c:Zi}(h:Rs a b)(h2:Rs b c):Rs a c:=⟨h2.ep.trans h.ep,h2.mode.trans h.mode,h2.quo.trans h.quo,h2.pres.trans h.pres,h2.act.trans h.act,h2.mint.trans h.mint,h2.paid.trans h.paid,h2.kept.trans h.kept⟩
theorem rs7 (s:Zd):Rs (tk3 s).2 (tk7 s).2:=⟨rfl,rfl,rfl,rfl,rfl,rfl,rfl,rfl⟩
theorem rs8 (s:Zd):Rs (tk7 s).2 (tk8 s).2:=by
 show Rs _ (enR (tk7 s).1 (tk7 s).2 (atP s));unfold enR;split
 ·exact⟨rfl,rfl,rfl,rfl,rfl,rfl,rfl,rfl⟩
 ·exact⟨rfl,rfl,rfl,rfl,rfl,rfl,rfl,rfl⟩
theorem rs9 (s:Zd):Rs (tk8 s).2 (tk9 s).2:=⟨rfl,rfl,rfl,rfl,rfl,rfl,rfl,rfl⟩
theorem rs10 (s:Zd):Rs (tk9 s).2 (YF s):=by
 unfold YF Vx;split
 ·exact⟨rfl,rfl,rfl,rfl,rfl,rfl,rfl,rfl⟩
 ·exact⟨rfl,rfl,rfl,rfl,rfl,rfl,rfl,rfl⟩
theorem rsT (s:Zd):Rs (tk3 s).2 (YF s):=(rs7 s).next ((rs8 s).next ((rs9 s).next (rs10 s)))
theorem Zdp (s:Zd):(YF s).ep=s.ep∧(YF s).mode=Ym s∧(YF s).quo=(VJ s.calm (GR s) (Y7 s)).2∧(YF s).pres=GR s∧(YF s).act=Y7 s ∧
  (YF s).mint=mtN (wgS s) (wgR s (r0P s))∧(YF s).paid=tot (mtP (wgS s) (wgR s (r0P s)))∧(YF s).kept=mtN (wgS s) (wgR s (r0P s))-tot (mtP (wgS s) (wgR s (r0P s))):=by
 have h:=rsT s;refine⟨h.ep,h.mode,h.quo,h.pres,h.act,h.mint,?_,h.kept⟩;rw[h.paid];show (0:Int)+Yy (mtP (wgS s) (wgR s (r0P s))) (mtW (wgS s)).length=_;have e:(mtP (wgS s) (wgR s (r0P s))).length=(mtW (wgS s)).length:=by rw[mtP,Vs,mtL,List.length_map];rfl
 rw[tot,e];omega
theorem calm7 (s:Zd):(tk7 s).1.calm=(VJ s.calm (GR s) (Y7 s)).1:=rfl
theorem Yiz (s:Zd)(r:Zi)(t:Int):(enS s r t).calm=s.calm:=by
 unfold enS;split<;>rfl
theorem Ygg (s:Zd)(r:Zi)(t:Int):(Zlq t (ajS s,r)).1.calm=s.calm:=rfl
theorem Ygq (s:Zd)(r:Zi):(moS s r).calm=s.calm:=rfl
theorem Yhm (s:Zd):(seS s).calm=s.calm:=rfl
theorem Ztr (s:Zd):(Vp s).calm=(VJ s.calm (GR s) (Y7 s)).1:=by
 have e8:(tk8 s).1.calm=(VJ s.calm (GR s) (Y7 s)).1:=(Yiz (tk7 s).1 (tk7 s).2 (atP s)).trans (calm7 s);have e9:(tk9 s).1.calm=(tk8 s).1.calm:=Ygq (tk8 s).1 (tk8 s).2;have e10:(Vx s).1.calm=(tk9 s).1.calm:=by
  by_cases c:(tk9 s).1.par=s.par
  ·rw[Vx,if_pos c]
  ·rw[Vx,if_neg c];exact Ygg _ _ _
 have eS:(Vp s).calm=(Vx s).1.calm:=Yhm (Vx s).1;rw[eS,e10,e9,e8]
def DuP (l:List Zg):Prop:=Gy l∧∀x∈l,(0≤x.at'∧x.at'≤2147483647)∧1≤x.amt
theorem Zje {l:List Zg}(h:DuP l){d:Zg}(ht:0≤d.at'∧d.at'≤2147483647)(h0:0≤d.amt):DuP (Jv l d):=by
 refine⟨Zyy h.1 d,fun x hx=>?_⟩;by_cases c:d.amt=0
 ·rw[Jv,if_pos c]at hx;exact h.2 x hx
 ·rcases Zdw hx with hx|rfl | ⟨h1,rfl⟩
  ·exact h.2 x hx
  ·exact⟨ht,by omega⟩
  ·have h2:=h.2 _ (Zea h1);refine⟨h2.1,?_⟩;show 1≤(gr ZZ l (Zhx l d)).amt+d.amt;omega
theorem Yhz {l:List Zg}(h:DuP l)(q:Zg→Bool):DuP (l.filter q) :=
 ⟨h.1.sublist (List.filter_sublist.map Zbt),fun x hx=>h.2 x (List.mem_filter.1 hx).1⟩
theorem bal0 {m:Zb}(mo:Zf m):0≤m.bal:=(mo.u m.bal (by simp)).1
theorem Ydk {q:Ze}{cs:List Zb}(hm:∀m∈cs,Zf m){t:Int}(ht:0≤t∧t≤2147483647){ds:List Zg}(h:DuP ds):∀k,k≤cs.length→DuP (duN q cs t ds k)
 | 0,_=>h
 | k+1,hk=>by
  have ih:=Ydk (q:=q) hm ht h k (by omega);rw[duN];split
  ·exact Zje ih ht (bal0 (hm _ (Yq (z:=ZQ) (k:=k) (by omega))))
  ·exact ih
theorem Ydf {s:Zd}{D:Nat}(ti:Zp s D){t:Int}(ht:0≤t∧t≤2147483647)(h:DuP s.dues):∀k,k≤(lvW s).length→DuP (lvK t (lvW s) (s.members,s.dues) k).2
 | 0,_=>h
 | k+1,hk=>by
  have ih:=Ydf ti ht h k (by omega);have lv:=(Zsm ti ht (k:=k) (by omega)).1;show DuP (Jv (lvK t (lvW s) (s.members,s.dues) k).2 (U8 t (gr ZQ (lvK t (lvW s) (s.members,s.dues) k).1 (at0 (lvW s) k).toNat)));refine Zje ih ht ?_;have hw:=(Yvw ti).2.2 (at0 (lvW s) k) (by rw[← Yf (by omega)];exact List.getElem_mem _);have l1:=lv.l1;exact bal0 (lv.m _ (Yq (z:=ZQ) (k:=(at0 (lvW s) k).toNat) (by simp only at l1;omega)))
theorem Ydo {s:Zd}{D:Nat}(ti:Zp s D)(r:Zi){t:Int}(ht:0≤t∧t≤2147483647)(h:DuP s.dues):∀k,k≤(enW s).length→DuP (stK s.par t (enW s) ⟨(enX s).ms,s.dues,s.exit,r.out,r.started⟩ k).ds
 | 0,_=>h
 | k+1,hk=>by
  have ih:=Ydo ti r ht h k (by omega);have st:=Zpn ti r ht (k:=k) (by omega);have hd0:(enW s).drop k=at0 (enW s) k::(enW s).drop (k+1):=by rw[List.drop_eq_getElem_cons (by omega),Yf (by omega)]
  have hin:=Vi st.e (z:=at0 (enW s) k) (by rw[hd0];simp);rw[stK,Jg];split
  ·exact ih
  ·refine Zje ih ht ?_;exact bal0 (st.m _ (Yq (z:=ZQ) (k:=(at0 (enW s) k).toNat) (by omega)))
structure Fz (s S:Zd):Prop where
 k:S.marks=s.marks
 r:S.ring=s.ring
 pn:S.purses.length=s.purses.length
 ml:s.members.length≤S.members.length
 o:S.pool=s.pool∨S.pool=[]
 du:DuP s.dues→DuP S.dues
theorem Fz.next {s S S':Zd}(h:Fz s S)(h2:Fz S S'):Fz s S' :=
 ⟨h2.k.trans h.k,h2.r.trans h.r,h2.pn.trans h.pn,Nat.le_trans h.ml h2.ml,by
  rcases h2.o with e|e
  ·rw[e];exact h.o
  ·exact .inr e,fun x=>h2.du (h.du x)⟩
theorem fz_wg (s:Zd):Fz s (wgS s):=⟨rfl,rfl,rfl,Nat.le_of_eq (Zxd s).l.symm,.inl rfl,id⟩
theorem fz_mt {s:Zd}{D:Nat}(ti:Zp s D){r:Zi}(ha:0≤r.act∧r.act≤18446744073709551615):Fz s (mtS s r) :=
 ⟨rfl,rfl,(Ykw ti ha (Nat.le_refl _)).l2,Nat.le_of_eq (Ybu s r).l.symm,.inl rfl,id⟩
theorem fz_fn (s:Zd)(r:Zi):Fz s (fnS s r):=⟨rfl,rfl,rfl,Nat.le_of_eq (Ygi s r).l.symm,.inl rfl,id⟩
theorem Ynz {s:Zd}{D:Nat}(ti:Zp s D){t:Int}(ht:0≤t∧t≤2147483647):Fz s (ejS s t s.members.length) :=
 ⟨rfl,rfl,rfl,Nat.le_of_eq (Ycf s t).l.symm,.inl rfl,fun h=>Ydk ti.be.m ht h _ (Nat.le_refl _)⟩
theorem fz_lv {s:Zd}{D:Nat}(ti:Zp s D){t:Int}(ht:0≤t∧t≤2147483647):Fz s (lvS s t) :=
 ⟨rfl,rfl,(Zfb ti.be.p (lv_d ti ht) _ (Nat.le_refl _)).1,Nat.le_of_eq (Ygu s t).l.symm,.inl rfl,fun h=>Yhz (Ydf ti ht h _ (Nat.le_refl _)) _⟩
theorem fz_en {s:Zd}{D:Nat}(ti:Zp s D)(r:Zi){t:Int}(ht:0≤t∧t≤2147483647):Fz s (enS s r t):=by
 have hx:=Yju ti;have st:=Zpn ti r ht (Nat.le_refl (enW s).length);unfold enS;split
 ·refine⟨rfl,rfl,hx.1.l2,?_,.inr rfl,fun h=>Ydo ti r ht h _ (Nat.le_refl _)⟩;show s.members.length≤(enY s r t).ms.length;have h1:(enY s r t).ms.length=(enX s).ms.length:=st.l1;omega
 ·exact⟨rfl,rfl,rfl,Nat.le_refl _,.inl rfl,id⟩
theorem fz_mo {s:Zd}{D:Nat}(ti:Zp s D)(r:Zi):Fz s (moS s r) :=
 ⟨rfl,rfl,(mo_k ti r (Nat.le_refl _)).l2,Nat.le_refl _,.inl rfl,id⟩
theorem fz_aj (s:Zd):Fz s (ajS s) :=
 ⟨rfl,rfl,(V7 s.par (s.members,s.purses) s.members.length).2,Nat.le_of_eq (V7 s.par (s.members,s.purses) s.members.length).1.symm,.inl rfl,id⟩
theorem Ydv {s:Zd}{D:Nat}(ti:Zp s D)(ms:∀m∈s.members,MI s.par m):Zp (Vx s).1 (D+384)∧Fz s (Vx s).1∧∀m∈(Vx s).1.members,MI (Vx s).1.par m∧MF (Vx s).1.par m:=by
 obtain⟨ti7,f7,ti8,m8,p8,e8,l8⟩:=Ygy ti ms;have hpc:=Z7 ti.r;have hep:=ti.ep;have hml:=ti.ml;have hA:=JI ti.ml ms;have ht:0≤atP s∧atP s≤2147483647:=by unfold atP;omega
 have hact:0≤Y7 s∧Y7 s≤18446744073709551615:=by
  have:=Vg (ks:=s.marks) ti.be.m;have e:Y7 s=U9 s.members:=rfl;omega
 have ti2:Zp (tk2 s).1 D:=Zhd ti;have z2:Fz s (tk2 s).1:=fz_wg s;have ra2:0≤(tk2 s).2.act∧(tk2 s).2.act≤18446744073709551615:=hact;obtain⟨S2,hS2⟩:∃x,x=(tk2 s).1:=⟨_,rfl⟩
 obtain⟨R2,hR2⟩:∃x,x=(tk2 s).2:=⟨_,rfl⟩
 have rb2:R2.burned=0:=by rw[hR2];rfl
 have e3:tk3 s=(mtS S2 R2,mtR S2 R2):=by rw[hS2,hR2];rfl
 rw[← hS2]at ti2 z2;rw[← hR2]at ra2;have ti3:=Zqj ti2 ra2;have z3:=z2.next (fz_mt ti2 ra2);have rb3:(mtR S2 R2).burned=0:=rb2;obtain⟨S3,hS3⟩:∃x,x=mtS S2 R2:=⟨_,rfl⟩
 obtain⟨R3,hR3⟩:∃x,x=mtR S2 R2:=⟨_,rfl⟩
 rw[← hS3]at ti3 z3 e3;rw[← hR3]at rb3 e3;have e4:tk4 s=(fnS S3 R3,fnR S3 R3 S3.members.length):=by unfold tk4;rw[e3]
 have ti4:=Ybz ti3 rb3;have z4:=z3.next (fz_fn S3 R3);obtain⟨S4,hS4⟩:∃x,x=fnS S3 R3:=⟨_,rfl⟩
 rw[← hS4]at ti4 z4 e4;have e5:(tk5 s).1=ejS S4 (atP s) S4.members.length:=by unfold tk5;rw[e4];rfl
 have ti5:=Zgp ti4 ht (Nat.le_refl S4.members.length);have z5:=z4.next (Ynz ti4 ht);rw[← e5]at ti5 z5;have z7:Fz s (tk7 s).1:=z5.next (fz_lv ti5 ht);have z8:Fz s (tk8 s).1:=z7.next (fz_en ti7 (tk7 s).2 ht);have ti9:Zp (tk9 s).1 (D+256):=Ydh ti8 (tk8 s).2 (Nat.le_refl _);have z9:Fz s (tk9 s).1:=z8.next (fz_mo ti8 (tk8 s).2);have m9:∀m∈(tk9 s).1.members,MI s.par m∧MF s.par m:=m8;obtain⟨S9,hS9⟩:∃x,x=(tk9 s).1:=⟨_,rfl⟩
 rw[← hS9]at ti9 z9 m9;by_cases c:(tk9 s).1.par=s.par
 ·have e10:(Vx s).1=S9:=by rw[Vx,if_pos c,hS9]
  rw[← hS9]at c;rw[e10];refine⟨ti9.mono (by omega),z9,?_⟩;rw[c];exact m9
 ·have e10:(Vx s).1=ejS (ajS S9) (atP s) (ajS S9).members.length:=by rw[Vx,if_neg c,hS9];rfl
  have tj:Zp (ajS S9) (D+256):=Zrt ti9 (Nat.le_refl _);rw[e10];refine⟨(Zgp tj ht (Nat.le_refl _)).mono (by have:=tj.ml;omega),z9.next ((fz_aj S9).next (Ynz tj ht)),?_⟩;exact Yti tj.r _ (aj_ms (p:=s.par) ti9.r fun m hm=>(m9 m hm).1)
def Zbn:Ze where
 inc:=10
 maxEff:=30
 floor:=10
 cap:=40
 up:=10
 down:=5
 bias:=4
 quot:=100
 biasEm:=8
 quotEm:=50
 recover:=2
 scoreCap:=100
 rate:=1048576
 bond:=1
 delay:=2
 streak:=4
 boost:=100
 absent:=100
 burn:=5000
 churn:=2
 wait:=2
 poll:=2
 enact:=1
 quorum:=3000
def simpG:Zz:=⟨Zbn,1073741824,[500,200],[⟨0,25⟩,⟨1,40⟩]⟩
theorem Zmo:Zj Zbn:=by
 constructor
 ·intro z hz;simp only[YN,Zbn,List.mem_cons,List.not_mem_nil,or_false]at hz;omega
 ·intro z hz;simp only[YS,Zbn,List.mem_cons,List.not_mem_nil,or_false]at hz;omega
theorem Zht (hk:K (Ud Zbn) L h):Zc prog 135 [] L h K:=by
 refine ZS func135 rfl (rs:=[_]) rfl rfl ZW (by kernel_rfl) rfl rfl ?_;refine xx ?_;refine Z2 fun b0 nb0 zb0=>?_;(try simp only[ZT]at nb0);refine xx ?_;exact ZP (ZO hk)
theorem Zgm (hk:∀h' pa pc fa fc,PH.le h h'→ZJ h' (.slice pa 2 pc) (.slice fa 2 fc) simpG→K (genV simpG (.slice pa 2 pc) (.slice fa 2 fc)) L h'):Zc prog 51 [] L h K:=by
 refine ZS func51 rfl (rs:=[_]) rfl rfl ZW (by kernel_rfl) rfl rfl ?_;refine xx ?_;refine Z2 fun b0 nb0 zb0=>?_;(try simp only[ZT]at nb0);refine xx ?_;refine Zht ?_;refine xx ?_;refine Z2 fun b1 nb1 zb1=>?_;(try simp only[ZT]at nb1);refine xx ?_;refine Z2 fun b2 nb2 zb2=>?_;(try simp only[ZT]at nb2);refine xx ?_;have s1:Sl (pub h b1 [.int .u64 500,.int .u64 200]) (.slice (some ⟨b1,0,none⟩) 2 2) 2 1 [.int .u64 500,.int .u64 200]:=Vy (o:=some (b1,2)) ⟨Nat.le_refl _,by simp [maxLen]⟩ rfl (by decide);have s2:Sl (pub (pub h b1 [.int .u64 500,.int .u64 200]) b2 [.int .i64 0,.int .u64 25,.int .i64 1,.int .u64 40]) (.slice (some ⟨b2,0,none⟩) 2 2) 2 2 [.int .i64 0,.int .u64 25,.int .i64 1,.int .u64 40]:=Vy (o:=some (b2,2)) ⟨Nat.le_refl _,by simp [maxLen]⟩ rfl (by decide);have n2:(pub h b1 [.int .u64 500,.int .u64 200]) b2=noC:=GC (o:=some (b1,2)) (by first|exact nb2.1|exact Ne.symm nb2.1) zb2;have l1:=Zhm (h:=h) zb1 [.int .u64 500,.int .u64 200];have l2:=Zhm n2 [.int .i64 0,.int .u64 25,.int .i64 1,.int .u64 40];refine⟨L,_,?_,hk _ _ _ _ _ (l1.trans l2) ⟨Zmo,by decide,⟨s1.up l2,fun z hz=>?_⟩,⟨Ybk,s2⟩,fun x hx=>?_⟩⟩
 ·first
  | exact(Za.perm _ (List.Perm.swap _ _ _)).trans ((WZ b1 _ _ _ [] _ h (by decide)).trans ((WZ b2 _ _ _ [] _ _ (by decide)).trans (Za.tail _ _ _)))
  | exact(WZ b1 _ _ _ [_] _ h (by decide)).trans ((WZ b2 _ _ _ [] _ _ (by decide)).trans (Za.tail _ _ _))
 ·simp only[simpG,List.mem_cons,List.not_mem_nil,or_false]at hz;rw[show IntKind.u64.min=0 by decide,show IntKind.u64.max=18446744073709551615 by decide];omega
 ·simp only[simpG,List.mem_cons,List.not_mem_nil,or_false]at hx;rcases hx with rfl|rfl
  ·exact⟨by decide,by decide⟩
  ·exact⟨by decide,by decide⟩
def Zag:Zd:=⟨Zbn,1073741824,765,0,0,0,0,0,false,[500,200],[⟨25,20,0,0,0,2⟩,⟨40,30,0,0,1,2⟩],[],[],[],[],[],List.replicate 16 0,[]⟩
theorem Zba:Znd simpG=true:=by decide +kernel
theorem Yah:newR simpG=Zag:=by
 rw[newR,Zba];show Yng simpG=Zag;have e1:tot (Uq simpG)=765:=by decide +kernel
 have e2:Wi Zbn 25=20:=by decide +kernel
 have e3:Wi Zbn 40=30:=by decide +kernel
 rw[Yng,e1];simp only[Zag,simpG,List.map_cons,List.map_nil,Zob,e2,e3]
theorem Yiu {s:Zd}(hf:Zbf s=true):ZD s:=by
 have h9:=Zmp (Yfa hf);simp only[Zbf,Bool.and_eq_true,List.all_eq_true,decide_eq_true_eq]at hf;exact⟨by omega,by omega,by omega,by omega,by omega,by omega,by omega,by omega,by omega,fun m hm=>by have:=hf.2 m hm;omega,fun b hb=>by have:=hf.1.2 b hb;omega⟩
theorem Ycr {s:Zd}(ho:ZD s):ZB s:=⟨by have:=ho.p;omega,by have:=ho.m;omega,by have:=ho.e;omega,by have:=ho.x;omega,by have:=ho.o;omega,by have:=ho.d;omega,by have:=ho.t;omega,by have:=ho.r;omega⟩
theorem Zx.slices {q:RV}{r:Zi}(hq:Zx h q r):∃oa oc la lc sa sc da dc,q=⟨.slice oa r.out.length oc,.slice la r.left.length lc,.slice sa r.started.length sc,.slice da r.done.length dc⟩:=by
 obtain⟨qo,ql,qs,qd⟩:=q;obtain⟨h1,h2,h3,h4⟩:=hq;simp only at h1 h2 h3 h4;obtain⟨oa,oc,rfl,_⟩:=h1.open;obtain⟨la,lc,rfl,_⟩:=h2.open;obtain⟨sa,sc,rfl,_⟩:=h3.open;obtain⟨da,dc,rfl,_⟩:=h4.open;exact⟨oa,oc,la,lc,sa,sc,da,dc,rfl⟩
theorem Zx.up {h h':PH}(le:PH.le h h'){q:RV}{r:Zi}(hq:Zx h q r):Zx h' q r:=⟨hq.o.up le,hq.l.up le,hq.s.up le,hq.d.up le⟩
abbrev nilR:RV:=⟨.slice none 0 0,.slice none 0 0,.slice none 0 0,.slice none 0 0⟩
theorem Yaj {s:Zd}(v:SV)(hs:Zr h v s)(few:ZD s)(fd:s.dues.length≤29000)
  (hk:GQ s=0→WK s=true→s.ep<1073741824→∀h' u q,PH.le h h'→Zr h' u (Vp s)→Zx h' q (YF s)→K (.tuple #[stV (Vp s) u,rpV (YF s) q,.int .i64 0]) L h')
  (hno:GQ s≠0→K (.tuple #[stV Zbq Zzy,rpV zeroR nilR,.int .i64 (GQ s)]) L h) :
  Zc prog 25 [stV s v] L h K:=by
 by_cases hf:WK s=true
 ·by_cases he:s.ep<1073741824
  ·have e0:GQ s=0:=by rw[GQ,if_pos hf,if_neg (by omega)]
   have ti:=Yhb hs hf he (Nat.le_refl s.dues.length);have ms:=Ysz hs hf;have t8:=Ygy ti fun m hm=>(ms m hm).1
   exact Zrz v hs few fd hf he (JI ti.ml fun m hm=>(ms m hm).1) (by
    have:=JI t8.2.2.2.2.2.2 fun m hm=>(t8.2.2.2.1 m hm).1;show U9 (tk8 s).1.members≤_
    omega) (hk e0 hf he)
  ·have e0:GQ s=200:=by rw[GQ,if_pos hf,if_pos (by omega)]
   have hno:=hno (by omega);rw[e0]at hno;have fewS:=Ycr few;obtain⟨pa,pc,ma,mc,ea,ec,xa,xc,oa,oc,da,dc,ta,tc,ka,kc,ra,rc,rfl⟩:=hs.slices;refine Z3 func25 rfl (rs:=[_,_,_]) rfl rfl ZW (by kernel_rfl) rfl rfl fun ap nd=>?_;clear ap nd;refine xx ?_;refine Z2 fun b1 nb1 zb1=>?_;(try simp only[ZT]at nb1);refine xx ?_;refine Z2 fun b2 nb2 zb2=>?_;(try simp only[ZT]at nb2);refine xx ?_;refine Z2 fun b3 nb3 zb3=>?_;(try simp only[ZT]at nb3);refine xx ?_;refine JV (s:=s) ⟨.slice pa s.purses.length pc,.slice ma s.members.length mc,.slice ea s.entry.length ec,.slice xa s.exit.length xc,.slice oa s.pool.length oc,.slice da s.dues.length dc,.slice ta s.motions.length tc,.slice ka s.marks.length kc,.slice ra s.ring.length rc⟩ hs fewS ?_;rw[hf];refine xx ?_;exact ZP (ZP (ZP (ZO hno)))
 ·have hf':WK s=false:=by simpa using hf
  have e0:GQ s=291:=by rw[GQ,if_neg hf]
  have hno:=hno (by omega);rw[e0]at hno;have fewS:=Ycr few;obtain⟨pa,pc,ma,mc,ea,ec,xa,xc,oa,oc,da,dc,ta,tc,ka,kc,ra,rc,rfl⟩:=hs.slices;refine Z3 func25 rfl (rs:=[_,_,_]) rfl rfl ZW (by kernel_rfl) rfl rfl fun ap nd=>?_;clear ap nd;refine xx ?_;refine Z2 fun b1 nb1 zb1=>?_;(try simp only[ZT]at nb1);refine xx ?_;refine Z2 fun b2 nb2 zb2=>?_;(try simp only[ZT]at nb2);refine xx ?_;refine Z2 fun b3 nb3 zb3=>?_;(try simp only[ZT]at nb3);refine xx ?_;refine JV (s:=s) ⟨.slice pa s.purses.length pc,.slice ma s.members.length mc,.slice ea s.entry.length ec,.slice xa s.exit.length xc,.slice oa s.pool.length oc,.slice da s.dues.length dc,.slice ta s.motions.length tc,.slice ka s.marks.length kc,.slice ra s.ring.length rc⟩ hs fewS ?_;rw[hf'];refine xx ?_;exact ZP (ZP (ZP (ZO hno)))
theorem bud_0 (p:Ze):Zmr p 0=0:=by unfold Zmr;rw[if_pos (.inl rfl)]
theorem Zke {s:Zd}{D:Nat}(ti:Zp s D)(ms:∀m∈s.members,MI s.par m) :
  (0≤(YF s).paid∧(YF s).paid≤18446744073709551615)∧(0≤(YF s).kept∧(YF s).kept≤18446744073709551615)∧(YF s).paid+(YF s).kept=(YF s).mint∧(YF s).mint≤18446744073709551615 ∧
  ((YF s).mode=3∨(YF s).mode=4→(YF s).mint=0)∧((YF s).act=0→(YF s).mint=0)∧(YF s).pres≤(YF s).act∧(s.emer=decide ((YF s).mode=4)) ∧
  ((YF s).quo=true→(Vp s).calm=0)∧((YF s).quo=false→0<(Vp s).calm):=by
 obtain⟨r1,r2,r3,r4,r5,r6,r7,r8⟩:=Zdp s;have hA:=JI ti.ml ms;have hact:0≤Y7 s∧Y7 s≤18446744073709551615:=by
  have:=Vg (ks:=s.marks) ti.be.m;have e:Y7 s=U9 s.members:=rfl;omega
 have hpre:GR s≤Y7 s:=(Vg (ks:=s.marks) ti.be.m).2;have ti2:Zp (wgS s) D:=Zhd ti;have hn:=Yla (r:=wgR s (r0P s)) ti2 hact;have htop:=ti2.top;obtain⟨_,p2,p3⟩:=Ygn (r:=wgR s (r0P s)) ti2 hact;have hp:=p3 _ (Nat.le_refl _);have et:tot (mtP (wgS s) (wgR s (r0P s)))=Yy (mtP (wgS s) (wgR s (r0P s))) (mtP (wgS s) (wgR s (r0P s))).length:=rfl;obtain⟨a1,a2,a3,a4,a5,a6,a7⟩:=ti2.ok.all;rw[r2,r3,r4,r5,r6,r7,r8,Ztr];have eN:mtN (wgS s) (wgR s (r0P s))=JO s.par (Y7 s) (s.gen+s.mint) s.most (Ym s):=rfl;refine⟨by omega,by omega,by omega,by omega,fun c=>?_,fun c=>?_,hpre,?_,fun c=>?_,fun c=>?_⟩
 ·rw[eN,JO,if_pos (.inl c)]
 ·rw[eN,JO,c,bud_0];split<;>rfl
 ·unfold Ym Zqb
  cases s.emer with
  | true=>simp
  | false =>
   simp only[Bool.false_eq_true,if_false];split
   ·decide
   ·split<;>decide
 ·unfold VJ at c ⊢;split
  ·rfl
  ·rename_i c2;rw[if_neg c2]at c;cases c
 ·unfold VJ at c ⊢;split
  ·rename_i c2;rw[if_pos c2]at c;cases c
  ·simp only;omega
structure ZI (r:Zi):Prop where
 u:∀z∈[r.pres,r.act,r.mint,r.paid,r.kept,r.burned,r.fees],0≤z∧z≤18446744073709551615
 n:∀z∈[r.ep,r.mode],-9223372036854775808≤z∧z≤9223372036854775807
theorem JN {l:List Zb}{i j:Nat}{m:Zb}(e:j≠i):gr ZQ (l.set i m) j=gr ZQ l j:=by
 by_cases hi:i<l.length
 ·rw[W9 hi,if_neg e]
 ·rw[List.set_eq_of_length_le (by omega)]
theorem Ybf (a b:Int):0≤Y2 a b:=by
 unfold Y2;split<;>omega
theorem Ycz {t:Int}{W:List Int}{x:List Zb×List Zg}{j:Nat}(hW:∀z∈W,j≠z.toNat):∀k,k≤W.length→gr ZQ (lvK t W x k).1 j=gr ZQ x.1 j
 | 0,_=>rfl
 | k+1,hk=>by
  have ih:=Ycz (t:=t) (x:=x) hW k (by omega);have hz:at0 W k∈W:=by rw[← Yf (by omega)];exact List.getElem_mem _
  show gr ZQ ((lvK t W x k).1.set (at0 W k).toNat _) j=_;rw[JN (hW _ hz),ih]
theorem Yed (s:Zd):(seS s).members.length=s.members.length:=WJ _ _ _
theorem Ytc (s:Zd):(seS s).par=s.par:=rfl
theorem Ynk (s:Zd)(r:Zi)(t:Int):(Zlq t (ajS s,r)).1.par=s.par:=rfl
def Was2 (l l':List Zb):Prop:=∀j,j<l.length→(gr ZQ l' j).status=2→(gr ZQ l j).status=2
theorem Was2.next {l l' l'':List Zb}(h:Was2 l l')(h2:Was2 l' l'')(e:l'.length=l.length):Was2 l l'':=fun j hj c=>h j hj (h2 j (by omega) c)
theorem en_mb (s:Zd)(r:Zi)(t:Int):(enS s r t).mint=s.mint∧(enS s r t).burn=s.burn∧(enS s r t).most=s.most∧(enS s r t).gen=s.gen∧(enR s r t).burned=r.burned:=by
 unfold enS enR;split<;>exact⟨rfl,rfl,rfl,rfl,rfl⟩
theorem mo_mb (s:Zd)(r:Zi):(moS s r).mint=s.mint∧(moS s r).burn=s.burn∧(moS s r).most=s.most∧(moS s r).gen=s.gen∧(moR s r).burned=r.burned:=⟨rfl,rfl,rfl,rfl,rfl⟩
theorem ej_mb (s:Zd)(r:Zi)(t:Int):(Zlq t (ajS s,r)).1.mint=s.mint∧(Zlq t (ajS s,r)).1.burn=s.burn∧(Zlq t (ajS s,r)).1.most=s.most∧(Zlq t (ajS s,r)).1.gen=s.gen∧(Zlq t (ajS s,r)).2.burned=r.burned:=⟨rfl,rfl,rfl,rfl,rfl⟩
theorem Zx.sl {q:RV}{r:Zi}(hq:Zx h q r):∃oa oc la lc sa sc da dc,q=⟨.slice oa r.out.length oc,.slice la r.left.length lc,.slice sa r.started.length sc,.slice da r.done.length dc⟩:=by
 obtain⟨qo,ql,qs,qd⟩:=q;obtain⟨h1,h2,h3,h4⟩:=hq;simp only at h1 h2 h3 h4;obtain⟨oa,oc,rfl,_⟩:=h1.open;obtain⟨la,lc,rfl,_⟩:=h2.open;obtain⟨sa,sc,rfl,_⟩:=h3.open;obtain⟨da,dc,rfl,_⟩:=h4.open;exact⟨oa,oc,la,lc,sa,sc,da,dc,rfl⟩
structure AuH (h:PH)(a b:Zd)(v u:SV)(r:Zi)(q:RV):Prop where
 ha:Zr h v a
 hb:Zr h u b
 hr:Zx h q r
 hk:ZI r
 fa:WK a=true
 fb:WK b=true
theorem AuH.up {h h':PH}(le:PH.le h h'){a b:Zd}{v u:SV}{r:Zi}{q:RV}(H:AuH h a b v u r q):AuH h' a b v u r q :=
 ⟨H.ha.up le,H.hb.up le,⟨H.hr.o.up le,H.hr.l.up le,H.hr.s.up le,H.hr.d.up le⟩,H.hk,H.fa,H.fb⟩
theorem ZI.nums {r:Zi}(h:ZI r):(0≤r.pres∧r.pres≤18446744073709551615)∧(0≤r.act∧r.act≤18446744073709551615)∧(0≤r.mint∧r.mint≤18446744073709551615)∧(0≤r.paid∧r.paid≤18446744073709551615)∧(0≤r.kept∧r.kept≤18446744073709551615)∧(0≤r.burned∧r.burned≤18446744073709551615)∧(0≤r.fees∧r.fees≤18446744073709551615)∧(-9223372036854775808≤r.ep∧r.ep≤9223372036854775807):=by
 have hu:=h.u;have hn:=h.n;simp only[List.forall_mem_cons]at hu hn;exact⟨hu.1,hu.2.1,hu.2.2.1,hu.2.2.2.1,hu.2.2.2.2.1,hu.2.2.2.2.2.1,hu.2.2.2.2.2.2.1,hn.1⟩
end Go.X
set_option maxRecDepth 100000
namespace Go.X
open Go.RowKit Go.Proofs Go.Bl Go.Proofs.Tryz
variable {L:Own} {h:PH} {K:PK}
def pc8 (n:Nat):Nat:=n%2+n/2%2+n/4%2+n/8%2+n/16%2+n/32%2+n/64%2+n/128%2
structure Mn (a b:Zd):Prop where
 mint:b.mint=a.mint
 burn:b.burn=a.burn
 gen:b.gen=a.gen
 most:b.most=a.most
theorem Mn.next {a b c:Zd}(h:Mn a b)(h2:Mn b c):Mn a c:=⟨h2.mint.trans h.mint,h2.burn.trans h.burn,h2.gen.trans h.gen,h2.most.trans h.most⟩
def mkF (g m:List Int):Nat→List Int
 | 0=>m
 | k+1=>if Vm g k=true then setB (mkF g m k) k else mkF g m k
def mkS (g:List Int)(s:Zd):Zd:={ s with marks:=mkF g s.marks s.members.length }
def Yqu (plan:List (List Int))(i:Nat):List Int:=plan.getD (min i (plan.length-1)) []
def itS (plan:List (List Int))(s:Zd):Nat→Zd
 | 0=>s
 | k+1=>Vp (mkS (Yqu plan k) (itS plan s k))
structure ItI (plan:List (List Int))(s:Zd)(h:PH)(u:SV)(k:Nat):Prop where
 i:Zr h u (itS plan s k)
 f:WK (itS plan s k)=true
 d:(itS plan s k).dues.length≤s.dues.length+384*k
theorem ItI.up {plan:List (List Int)}{s:Zd}{h h':PH}{u:SV}{k:Nat}(le:PH.le h h')(x:ItI plan s h u k):ItI plan s h' u k:=⟨x.i.up le,x.f,x.d⟩
end Go.X
set_option maxRecDepth 100000
namespace Go.X
open Go.RowKit Go.Proofs Go.Bl Go.Proofs.Tryz
variable {L:Own} {h:PH} {K:PK}
theorem Yhi (s:Zd)(r:Zi)(t:Int):(enR s r t).fees=r.fees:=by
 unfold enR;split<;>rfl
theorem Yin (s:Zd)(r:Zi):(moR s r).fees=r.fees:=rfl
theorem Ygc (s:Zd)(r:Zi)(t:Int):(Zlq t (ajS s,r)).2.fees=r.fees:=rfl
theorem bf7 (s:Zd):(tk7 s).2.burned=(tk4 s).2.burned∧(tk7 s).2.fees=(tk4 s).2.fees:=⟨rfl,rfl⟩
theorem Zxf (s:Zd):(YF s).burned=(tk4 s).2.burned∧(YF s).fees=(tk4 s).2.fees:=by
 obtain⟨a7,b7⟩:=bf7 s;have a8:(tk8 s).2.burned=(tk7 s).2.burned:=(en_mb (tk7 s).1 (tk7 s).2 (atP s)).2.2.2.2;have b8:(tk8 s).2.fees=(tk7 s).2.fees:=Yhi (tk7 s).1 (tk7 s).2 (atP s);have a9:(tk9 s).2.burned=(tk8 s).2.burned:=(mo_mb (tk8 s).1 (tk8 s).2).2.2.2.2;have b9:(tk9 s).2.fees=(tk8 s).2.fees:=Yin (tk8 s).1 (tk8 s).2;have h10:(Vx s).2.burned=(tk9 s).2.burned∧(Vx s).2.fees=(tk9 s).2.fees:=by
  by_cases c:(tk9 s).1.par=s.par
  ·rw[Vx,if_pos c];exact⟨rfl,rfl⟩
  ·rw[Vx,if_neg c];exact⟨(ej_mb _ _ _).2.2.2.2,Ygc _ _ _⟩
 have e:YF s=(Vx s).2:=rfl;rw[e];exact⟨by rw[h10.1,a9,a8,a7],by rw[h10.2,b9,b8,b7]⟩
theorem Zod {s:Zd}{D:Nat}(ti:Zp s D)(ms:∀m∈s.members,MI s.par m∧MF s.par m):ZI (YF s):=by
 obtain⟨r1,r2,r3,r4,r5,_⟩:=Zdp s;obtain⟨k1,k2,k3,k4,k5,k6,k7,k8,k9,k10⟩:=Zke ti fun m hm=>(ms m hm).1;have hep:=ti.ep;have hA:=JI ti.ml fun m hm=>(ms m hm).1;have hact:0≤Y7 s∧Y7 s≤140737488355328:=by
  have:=Vg (ks:=s.marks) ti.be.m;have e:Y7 s=U9 s.members:=rfl;omega
 have hpre:0≤GR s:=(Vg (ks:=s.marks) ti.be.m).1;have ti2:Zp (tk2 s).1 D:=Zhd ti;have ra2:0≤(tk2 s).2.act∧(tk2 s).2.act≤18446744073709551615:=⟨hact.1,by have:=hact.2;show Y7 s≤_;omega⟩
 have ti3:Zp (tk3 s).1 D:=Zqj ti2 ra2;have e4:(tk4 s).2.burned=0+GF (tk3 s).1 (tk3 s).2 (tk3 s).1.members.length∧(tk4 s).2.fees=0+(Zbo (tk3 s).1 (tk3 s).2 (tk3 s).1.members.length-GF (tk3 s).1 (tk3 s).2 (tk3 s).1.members.length):=⟨rfl,rfl⟩
 obtain⟨b1,b2⟩:=Zxf s
 generalize (tk3 s).1=S3 at ti3 e4
 generalize (tk3 s).2=R3 at e4
 obtain⟨f1,f2,f3⟩:=Zkr ti3.ok.p ti3.r S3.marks R3.mode (ms:=S3.members) ti3.be.m S3.members.length (Nat.le_refl _);have hsum:=ti3.sum;obtain⟨q1,q2,q3,q4,q5,q6⟩:=ti3.parts;have hub:0≤tot ((upI (fnF S3.par S3.marks R3.mode) S3.members S3.members.length).map Zb.bal):=Yu (WD (Zaq Zf (fun k _ hm=>Zlz ti3.ok.p ti3.r _ _ k hm) ti3.be.m _ (Nat.le_refl _)));have hmode:1≤(YF s).mode∧(YF s).mode≤4:=by
  rw[r2];unfold Ym Zqb;split
  ·omega
  ·split
   ·omega
   ·split<;>omega
 refine⟨fun z hz=>?_,fun z hz=>?_⟩
 ·simp only[List.mem_cons,List.not_mem_nil,or_false]at hz;rcases hz with rfl|rfl|rfl|rfl|rfl|rfl|rfl
  ·omega
  ·omega
  ·omega
  ·omega
  ·omega
  ·rw[b1,e4.1];show 0≤0+fnU S3.par S3.marks R3.mode S3.members S3.members.length∧0+fnU S3.par S3.marks R3.mode S3.members S3.members.length≤18446744073709551615;omega
  ·rw[b2,e4.2];show 0≤0+(fnT S3.par S3.marks R3.mode S3.members S3.members.length-fnU S3.par S3.marks R3.mode S3.members S3.members.length)∧0+(fnT S3.par S3.marks R3.mode S3.members S3.members.length-fnU S3.par S3.marks R3.mode S3.members S3.members.length)≤18446744073709551615;omega
 ·simp only[List.mem_cons,List.not_mem_nil,or_false]at hz;rcases hz with rfl|rfl
  ·rw[r1];omega
  ·omega
end Go.X

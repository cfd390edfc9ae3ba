/- Lemmas and contracts. Conditions: as each says. -/
import Derived.Test.YtpdidilobgimcaaGreatQ31
set_option linter.unusedVariables false
set_option linter.unusedSimpArgs false
set_option maxHeartbeats 12800000
set_option maxRecDepth 20000
namespace Go.X
open Go.RowKit Go.Proofs Go.Bl Go.Proofs.Tryz
variable {L:Own} {h:PH} {K:PK}
structure Zx (h:PH)(q:RV)(r:Zi):Prop where
 o:Ints h .i64 q.o r.out
 l:Ints h .i64 q.l r.left
 s:Ints h .i64 q.s r.started
 d:Ints h .i64 q.d r.done
theorem Zss {o:Option (Nat×Nat)}{xs:List Value}:∀ {L:Own},Ap L h→(∀x∈L,apB o x.b)→Ap L (Jq h o xs)
 | [],_,_=>trivial
 | _::_,ap,hn=>⟨Gz (hn _ List.mem_cons_self) ap.1,Zss ap.2 fun x hx=>hn x (List.mem_cons_of_mem _ hx)⟩
theorem Zfs {b:Nat}:∀ {L:Own},ZU b L→∀x∈L,x.b≠b
 | [],_,_,hx=>by cases hx
 | _::_,ha,x,hx=>by
  rcases List.mem_cons.1 hx with rfl|hx
  ·exact ha.1
  ·exact Zfs ha.2 x hx
theorem You {e sz:Nat}{o:Option (Nat×Nat)}{xs:List Value}(nd:Nd (oent e sz o xs L)):∀x∈L,apB o x.b:=fun x hx=>by
 cases o with
 | none=>trivial
 | some p=>exact Ne.symm (Zfs nd.1 x hx)
theorem Yeu {e sz:Nat}{o:Option (Nat×Nat)}{xs:List Value}(nd:Nd (oent e sz o xs L)):Nd L:=by
 cases o with
 | none=>exact nd
 | some p=>exact nd.2
theorem Ue {e sz n:Nat}{o:Option (Nat×Nat)}{xs:List Value}{a:Zl}(ok:okO o n)(hl:xs.length=n*sz)(hn:n≤9223372036854775807)(ap:Ap (a::oent e sz o xs L) h)(nd:Nd (a::oent e sz o xs L))(he:e≠4294967295:=by first|decide|omega) :
  ∃h',PH.le h h'∧Za (a::oent e sz o xs L) h (a::L) h'∧Sl h' (ovs o n) n sz xs∧Ap (a::L) h'∧Nd (a::L):=by
 have ap2:=Ap.perm oent_perm ap;have nd2:=Nd.perm oent_perm nd;have ao:apO o [] h:=YD ap2;exact⟨Jq h o xs,Wa ao xs,(Za.perm h oent_perm).trans (Y1 o xs _ h he),Vc ok hl hn,Zss (Ap.oent ap2) (You nd2),Yeu nd2⟩
section
variable {e0 s0 e1 s1 e2 s2 e3 s3 e4 s4 e5 s5:Nat} {o0 o1 o2 o3 o4 o5:Option (Nat×Nat)} {X0 X1 X2 X3 X4 X5:List Value} {a:Zl}
theorem Ynf:(a::oent e0 s0 o0 X0 (oent e1 s1 o1 X1 (oent e2 s2 o2 X2 L))).Perm (a::oent e2 s2 o2 X2 (oent e0 s0 o0 X0 (oent e1 s1 o1 X1 L))):=by
 refine List.Perm.cons _ ?_;exact(Z3 o0 X0 (Yo o1 o2 X1 X2 _)).trans (Yo o0 o2 X0 X2 _)
theorem Yce:(a::oent e0 s0 o0 X0 L).Perm (a::oent e0 s0 o0 X0 (oent e1 s1 none X1 L)):=List.Perm.refl _
theorem Yks:(a::oent e0 s0 o0 X0 (oent e1 s1 o1 X1 (oent e2 s2 o2 X2 L))).Perm (a::oent e0 s0 o0 X0 (oent e2 s2 o2 X2 (oent e1 s1 o1 X1 L))) :=
 List.Perm.cons _ (Z3 o0 X0 (Yo o1 o2 X1 X2 _))
theorem Ypd:(a::oent e0 s0 o0 X0 (oent e1 s1 o1 X1 (oent e2 s2 o2 X2 (oent e3 s3 o3 X3 L)))).Perm (a::oent e0 s0 o0 X0 (oent e3 s3 o3 X3 (oent e4 s4 none X4 (oent e2 s2 o2 X2 (oent e1 s1 o1 X1 L))))):=by
 refine List.Perm.cons _ (Z3 o0 X0 ?_);show (oent e1 s1 o1 X1 (oent e2 s2 o2 X2 (oent e3 s3 o3 X3 L))).Perm (oent e3 s3 o3 X3 (oent e2 s2 o2 X2 (oent e1 s1 o1 X1 L)));refine(Yo o1 o2 X1 X2 _).trans ?_;refine(Z3 o2 X2 (Yo o1 o3 X1 X3 _)).trans ?_;exact Yo o2 o3 X2 X3 _
theorem permT3:(a::oent e0 s0 o0 X0 (oent e1 s1 o1 X1 (oent e2 s2 o2 X2 (oent e3 s3 o3 X3 (oent e4 s4 o4 X4 (oent e5 s5 o5 X5 L)))))).Perm (a::oent e0 s0 o0 X0 (oent e4 s4 o4 X4 (oent e5 s5 o5 X5 (oent e1 s1 o1 X1 (oent e2 s2 o2 X2 (oent e3 s3 o3 X3 L)))))):=by
 refine List.Perm.cons _ (Z3 o0 X0 ?_);have up:∀ {e s:Nat} {o:Option (Nat×Nat)} {X:List Value} {R:Own},(oent e1 s1 o1 X1 (oent e2 s2 o2 X2 (oent e3 s3 o3 X3 (oent e s o X R)))).Perm (oent e s o X (oent e1 s1 o1 X1 (oent e2 s2 o2 X2 (oent e3 s3 o3 X3 R)))):=fun {e s o X R} =>
  (Z3 o1 X1 ((Z3 o2 X2 (Yo o3 o X3 X _)).trans (Yo o2 o X2 X _))).trans (Yo o1 o X1 X _)
 exact up.trans (Z3 o4 X4 up)
end
section
variable {e0 s0 e1 s1 e2 s2 e3 s3 e4 s4 e5 s5:Nat} {o0 o1 o2 o3 o4 o5:Option (Nat×Nat)} {X0 X1 X2 X3 X4 X5:List Value} {a b c d:Zl}
theorem up3 {e s:Nat}{o:Option (Nat×Nat)}{X:List Value}{R:Own}:(b::c::d::oent e s o X R).Perm (oent e s o X (b::c::d::R)):=Ye [b,c,d]
theorem Ycv:(a::b::c::d::oent e0 s0 o0 X0 L).Perm (a::oent e0 s0 o0 X0 (b::c::d::L)):=List.Perm.cons _ up3
theorem permT5:(a::b::c::d::oent e0 s0 o0 X0 (oent e1 s1 o1 X1 (oent e2 s2 o2 X2 L))).Perm (a::oent e0 s0 o0 X0 (oent e1 s1 o1 X1 (oent e2 s2 o2 X2 (b::c::d::L)))) :=
 List.Perm.cons _ (up3.trans (Z3 o0 X0 (up3.trans (Z3 o1 X1 up3))))
theorem permT7:(b::c::d::oent e1 s1 o1 X1 (oent e2 s2 o2 X2 (oent e3 s3 o3 X3 (oent e4 s4 o4 X4 (oent e5 s5 o5 X5 L))))).Perm (oent e1 s1 o1 X1 (oent e2 s2 o2 X2 (oent e3 s3 o3 X3 (oent e4 s4 o4 X4 (oent e5 s5 o5 X5 (b::c::d::L)))))) :=
 up3.trans (Z3 o1 X1 (up3.trans (Z3 o2 X2 (up3.trans (Z3 o3 X3 (up3.trans (Z3 o4 X4 up3)))))))
theorem Zcc:(a::oent e0 s0 o0 X0 (b::c::d::oent e1 s1 o1 X1 (oent e2 s2 o2 X2 (oent e3 s3 o3 X3 (oent e4 s4 o4 X4 (oent e5 s5 o5 X5 L)))))).Perm (a::oent e0 s0 o0 X0 (oent e1 s1 o1 X1 (oent e2 s2 o2 X2 (oent e3 s3 o3 X3 (oent e4 s4 o4 X4 (oent e5 s5 o5 X5 (b::c::d::L))))))) :=
 List.Perm.cons _ (Z3 o0 X0 permT7)
theorem Ysh:(a::oent e0 s0 o0 X0 (oent e1 s1 o1 X1 (oent e2 s2 o2 X2 (oent e3 s3 o3 X3 (oent e4 s4 o4 X4 (oent e5 s5 o5 X5 (b::c::d::L))))))).Perm (a::b::c::d::oent e0 s0 o0 X0 (oent e4 s4 o4 X4 (oent e5 s5 o5 X5 (oent e1 s1 o1 X1 (oent e2 s2 o2 X2 (oent e3 s3 o3 X3 L)))))) :=
 permT3.trans (List.Perm.cons _ ((Z3 o0 X0 permT7.symm).trans up3.symm))
end
theorem Ywm (q:Zd)(cs:List Zc):∀k,∀z∈ouN q cs k,0≤z∧z<k
 | 0,z,hz=>by cases hz
 | k+1,z,hz=>by
  rw[ouN]at hz;split at hz
  ·rcases List.mem_append.1 hz with hz|hz
   ·have:=Ywm q cs k z hz;omega
   ·rw[List.mem_singleton]at hz;omega
  ·have:=Ywm q cs k z hz;omega
theorem st_b {p:Zd}{t:Int}{n:Nat}(n0:0<n)(W:List Int){x:StX}(hW:∀z∈W,z<n)(h1:∀z∈x.out,0≤z∧z<n)(h2:∀z∈x.go,0≤z∧z<n):∀k,k≤W.length→(∀z∈(stK p t W x k).out,0≤z∧z<(n:Int))∧(∀z∈(stK p t W x k).go,0≤z∧z<(n:Int))∧(stK p t W x k).out.length≤x.out.length+k∧(stK p t W x k).go.length≤x.go.length+k
 | 0,_=>⟨h1,h2,Nat.le_refl _,Nat.le_refl _⟩
 | k+1,hk=>by
  obtain⟨i1,i2,i3,i4⟩:=st_b (p:=p) (t:=t) n0 W hW h1 h2 k (by omega);have hz:=hW (at0 W k) (by rw[← Yh (by omega)];exact List.getElem_mem _);have hz2:(((at0 W k).toNat:Nat):Int)<n:=by omega
  have new:∀l:List Int,(∀z∈l,0≤z∧z<(n:Int))→∀z∈l++[((at0 W k).toNat:Int)],0≤z∧z<(n:Int):=fun l hl z hz=>by
   rcases List.mem_append.1 hz with hz|hz
   ·exact hl z hz
   ·rw[List.mem_singleton]at hz;omega
  rw[stK,Gn];split
  ·exact⟨i1,new _ i2,by simp only;omega,by simp only[List.length_append,List.length_singleton];omega⟩
  ·exact⟨new _ i1,i2,by simp only[List.length_append,List.length_singleton];omega,by simp only;omega⟩
theorem Ymj {W:List Int}{x:MoX}{n:Nat}(n0:0<n)(hW:∀z∈W,z<n)(h0:∀z∈x.dn,0≤z∧z<n):∀k,k≤W.length→∀z∈(moK W x k).dn,0≤z∧z<(n:Int)
 | 0,_=>h0
 | k+1,hk=>fun z hz=>by
  have ih:=Ymj n0 hW h0 k (by omega);have hw:=hW (at0 W k) (by rw[← Yh (by omega)];exact List.getElem_mem _);have e:(moK W x (k+1)).dn=if moB (gr Yg (moK W x k).mo (at0 W k).toNat) (moK W x k).tr then (moK W x k).dn++[((at0 W k).toNat:Int)] else (moK W x k).dn:=rfl
  rw[e]at hz;split at hz
  ·rcases List.mem_append.1 hz with hz|hz
   ·exact ih z hz
   ·rw[List.mem_singleton]at hz;omega
  ·exact ih z hz
theorem Yjj {l:List Int}{v:Value}(sl:Sl h v l.length 1 (l.map (.int .i64)))(hl:∀z∈l,0≤z∧z<1000000):Ints h .i64 v l:=⟨sl,fun z hz=>by
 rw[show IntKind.i64.min = -9223372036854775808 by decide,show IntKind.i64.max=9223372036854775807 by decide];have:=hl z hz
 omega⟩
open Go.RowKit Go.Proofs Go.Bl Go.Proofs.Tryz
variable {L:Own} {h:PH} {K:PK}
theorem oneO (o:Option (Nat×Nat))(n:Nat):(ovs o n).oneCell'=true:=Zsi o n
theorem Yqr (p q:Zd)(x y:Operand)(K:Value→Prop)(t:Zo K):Ur prog .neq 24 x y (W5 p) (W5 q) K t=K (.bool (!decide (p=q))):=by
 have e:decide (p=q)=decide (YA p++Y9 p=YA q++Y9 q):=by
  rw[decide_eq_decide];exact⟨fun h=>by rw[h],Yfd⟩
 rw[e];exact Zfe (T:=24) (ks:=parK) (by kernel_rfl) (by kernel_rfl) (by kernel_rfl) (by kernel_rfl) (YA p++Y9 p) (YA q++Y9 q) rfl rfl x y K t
theorem Zq.mono {s:Zf}{D D':Nat}(h:Zq s D)(hd:D≤D'):Zq s D' :=
 ⟨h.r,h.ok,h.ep,h.be,h.ml,h.pl,h.en,h.ex,h.dd,Nat.le_trans h.dn hd,h.oo,h.on,h.mm,h.mn,h.mon,h.top⟩
theorem lv_ml {s:Zf}{t:Int}:(lvS s t).members.length=s.members.length:=by
 have:∀(W:List Int) (x:List Zc×List Zg) k,(lvK t W x k).1.length=x.1.length:=fun W x k=>by
  induction k with
  | zero=>rfl
  | succ k ih=>rw[lvK,Zaz];simp only[List.length_set];exact ih
 exact this _ _ _
structure Fr (s S:Zf):Prop where
 par:S.par=s.par
 ep:S.ep=s.ep
 k:S.marks=s.marks
 r:S.ring=s.ring
 t:S.motions=s.motions
 o:S.pool=s.pool
 e:S.entry=s.entry
 l:S.members.length=s.members.length
theorem Fr.next {s S S':Zf}(h:Fr s S)(h2:Fr S S'):Fr s S':=⟨h2.par.trans h.par,h2.ep.trans h.ep,h2.k.trans h.k,h2.r.trans h.r,h2.t.trans h.t,h2.o.trans h.o,h2.e.trans h.e,h2.l.trans h.l⟩
theorem Ydt (s:Zf):Fr s (wgS s):=⟨rfl,rfl,rfl,rfl,rfl,rfl,rfl,WS _ _ _⟩
theorem Yet (s:Zf)(r:Zi):Fr s (mtS s r):=⟨rfl,rfl,rfl,rfl,rfl,rfl,rfl,by
 have:∀(p:Zd) (W:List Nat) (P:List Int) (x:List Zc×List Int) k,(mtK p W P x k).1.length=x.1.length:=fun p W P x k=>by
  induction k with
  | zero=>rfl
  | succ k ih=>rw[mtK,Uk];simp only[List.length_set];exact ih
 exact this _ _ _ _ _⟩
theorem Ygg (s:Zf)(r:Zi):Fr s (fnS s r):=⟨rfl,rfl,rfl,rfl,rfl,rfl,rfl,WS _ _ _⟩
theorem Zym (s:Zf)(t:Int):Fr s (ejS s t s.members.length):=⟨rfl,rfl,rfl,rfl,rfl,rfl,rfl,WF _ _ _⟩
theorem Ygd (s:Zf)(t:Int):Fr s (lvS s t):=⟨rfl,rfl,rfl,rfl,rfl,rfl,rfl,lv_ml⟩
theorem Yqt (s:Zf)(r:Zi)(t:Int):(enS s r t).par=s.par∧(enS s r t).ep=s.ep∧(enS s r t).marks=s.marks∧(enS s r t).ring=s.ring∧(enS s r t).motions=s.motions:=by
 unfold enS;split
 ·exact⟨rfl,rfl,rfl,rfl,rfl⟩
 ·exact⟨rfl,rfl,rfl,rfl,rfl⟩
theorem JR {o:Option (Nat×Nat)}{n:Nat}(ho:okO o n):n≤9223372036854775807:=by
 cases o with
 | none=>have:n=0:=ho;omega
 | some p=>have:=ho.2;have:=ho.1;simp only[maxLen]at *;omega
theorem Zxd {s:Zf}(v:SV)(hs:Zp h v s)(few:Zv s)(fd:s.dues.length≤29000)(hf:Wi s=true)(he:s.ep<1073741824)(hA1:U0 s≤140737488355328)(hA8:U0 (tk8 s).1≤18446744073709551615)
  (hk:∀h' u q,PH.le h h'→Zp h' u (Vo s)→Zx h' q (JW s)→K (.tuple #[stV (Vo s) u,rpV (JW s) q,.int .i64 0]) L h') :
  Zb prog 22 [stV s v] L h K:=by
 have hv0:=hs;have ti:Zq s 29000:=Zzq hs hf he fd;obtain⟨pa,pc,ma,mc,ea,ec,xa,xc,oa,oc,da,dc,ta,tc,ka,kc,ra,rc,rfl⟩:=hs.slices;have fewS:ZD s:=by
  have f1:=few.p;have f2:=few.m;have f3:=few.e;have f4:=few.x;have f5:=few.o;have f6:=few.d;have f7:=few.t;have f8:=few.r
  constructor<;>omega
 have hpc:=Ya ti.r;have hep:=ti.ep;have hml:=ti.ml;have hw:0≤s.par.wait∧s.par.wait≤1000:=by omega
 have ht:0≤min (s.ep+s.par.wait) 2147483647∧min (s.ep+s.par.wait) 2147483647≤2147483647:=by omega
 obtain⟨t,hte⟩:∃t,t=min (s.ep+s.par.wait) 2147483647:=⟨_,rfl⟩
 rw[← hte]at ht;have hact:0≤U0 s:=by have:=Jz (ks:=s.marks) ti.be.m;show 0≤Zap s.members;omega
 obtain⟨S2,hS2⟩:∃x,x=wgS s:=⟨_,rfl⟩
 obtain⟨R2,hR2⟩:∃x,x=wgR s (r0P s):=⟨_,rfl⟩
 have e2:tk2 s=(S2,R2):=by rw[hS2,hR2];rfl
 have ti2:Zq S2 29000:=hS2 ▸ Ygs ti;have f2:Fr s S2:=hS2 ▸ Ydt s;have ra2:0≤R2.act∧R2.act≤18446744073709551615:=by rw[hR2];show 0≤U0 s∧U0 s≤_;omega
 have rp2:R2.paid=0:=by rw[hR2];rfl
 obtain⟨S3,hS3⟩:∃x,x=mtS S2 R2:=⟨_,rfl⟩
 obtain⟨R3,hR3⟩:∃x,x=mtR S2 R2:=⟨_,rfl⟩
 have e3:tk3 s=(S3,R3):=by rw[hS3,hR3];show (mtS (tk2 s).1 (tk2 s).2,mtR (tk2 s).1 (tk2 s).2)=_;rw[e2]
 have ti3:Zq S3 29000:=hS3 ▸ Yeq ti2 ra2;have f3:Fr s S3:=f2.next (hS3 ▸ Yet S2 R2);have rb3:R3.burned=0:=by rw[hR3,hR2];rfl
 have rf3:R3.fees=0:=by rw[hR3,hR2];rfl
 obtain⟨S4,hS4⟩:∃x,x=fnS S3 R3:=⟨_,rfl⟩
 obtain⟨R4,hR4⟩:∃x,x=fnR S3 R3 S3.members.length:=⟨_,rfl⟩
 have e4:tk4 s=(S4,R4):=by rw[hS4,hR4];show (fnS (tk3 s).1 (tk3 s).2,fnR (tk3 s).1 (tk3 s).2 (tk3 s).1.members.length)=_;rw[e3]
 have ti4:Zq S4 29000:=hS4 ▸ Yhc ti3 rb3;have f4:Fr s S4:=f3.next (hS4 ▸ Ygg S3 R3);have p4:S4.purses=S3.purses:=by rw[hS4];rfl
 have d4:S4.dues=s.dues:=by rw[hS4,hS3,hS2];rfl
 have x4:S4.exit=s.exit:=by rw[hS4,hS3,hS2];rfl
 have ro4:R4.out=[]∧R4.left=[]∧R4.started=[]∧R4.done=[]:=by rw[hR4,hR3,hR2];exact⟨rfl,rfl,rfl,rfl⟩
 obtain⟨S5,hS5⟩:∃x,x=ejS S4 t S4.members.length:=⟨_,rfl⟩
 obtain⟨R5,hR5⟩:∃x,x=ejR S4 R4 S4.members.length:=⟨_,rfl⟩
 have e5:tk5 s=(S5,R5):=by rw[hS5,hR5];show Yec (atP s) (tk4 s)=_;rw[e4,show atP s=t from hte.symm];rfl
 have f5:Fr s S5:=f4.next (hS5 ▸ Zym S4 t);have ti5:Zq S5 29128:=by have:=Zey ti4 ht (Nat.le_refl S4.members.length);rw[hS5];exact this.mono (by have:=f4.l;omega)
 have p5:S5.purses=S4.purses:=by rw[hS5];rfl
 have ro5:R5.left=[]∧R5.started=[]∧R5.done=[]∧R5.out=ouN S4.par S4.members S4.members.length:=by
  rw[hR5];refine⟨ro4.2.1,ro4.2.2.1,ro4.2.2.2,?_⟩;show R4.out++_=_;rw[ro4.1];rfl
 have ol5:R5.out.length≤128:=by rw[ro5.2.2.2];have:=Zdq S4.par S4.members S4.members.length;have:=f4.l;omega
 have ob5:∀z∈R5.out,0≤z∧z<((128:Nat):Int):=by rw[ro5.2.2.2];intro z hz;have:=Ywm S4.par S4.members S4.members.length z hz;have:=f4.l;omega
 obtain⟨S7,hS7⟩:∃x,x=lvS S5 t:=⟨_,rfl⟩
 obtain⟨R7,hR7⟩:∃x,x=lvR S5 R5:=⟨_,rfl⟩
 have e7:tk7 s=(S7,R7):=by rw[hS7,hR7];show (lvS (tk5 s).1 (atP s),lvR (tk5 s).1 (tk5 s).2)=_;rw[e5,show atP s=t from hte.symm]
 have ti7:Zq S7 29192:=hS7 ▸ Ymh ti5 ht;have f7:Fr s S7:=f5.next (hS7 ▸ Ygd S5 t);have ro7:R7.out=R5.out∧R7.left=lvW S5∧R7.started=[]∧R7.done=[]:=by rw[hR7];exact⟨rfl,rfl,ro5.2.1,ro5.2.2.1⟩
 obtain⟨S8,hS8⟩:∃x,x=enS S7 R7 t:=⟨_,rfl⟩
 obtain⟨R8,hR8⟩:∃x,x=enR S7 R7 t:=⟨_,rfl⟩
 have e8:tk8 s=(S8,R8):=by rw[hS8,hR8];show (enS (tk7 s).1 (tk7 s).2 (atP s),enR (tk7 s).1 (tk7 s).2 (atP s))=_;rw[e7,show atP s=t from hte.symm]
 have ti8:Zq S8 29256:=hS8 ▸ Ysm ti7 R7 ht;obtain⟨a8,b8,c8,d8,g8⟩:=Yqt S7 R7 t;rw[← hS8]at a8 b8 c8 d8 g8;have ro8:R8.left=lvW S5∧R8.done=[]∧(∀z∈R8.out,0≤z∧z<((128:Nat):Int))∧(∀z∈R8.started,0≤z∧z<((128:Nat):Int))∧R8.out.length≤300∧R8.started.length≤300:=by
  rw[hR8];unfold enR;split
  ·have hx:=(Yil ti7).1;have hwl:=(en_w ti7).1
   obtain⟨u1,u2,u3,u4⟩:=st_b (p:=S7.par) (t:=t) (n:=128) (by decide) (enW S7) (x:=⟨(enX S7).ms,S7.dues,S7.exit,R7.out,R7.started⟩) (fun z hz=>by
    have h1:=Vx hx.e (List.mem_of_mem_take hz);have h2:(enX S7).ms.length≤128:=hx.l1
    omega) (by rw[ro7.1];exact ob5) (fun z hz=>by rw[ro7.2.2.1]at hz;cases hz) (enW S7).length (Nat.le_refl _)
   simp only[ro7.1,ro7.2.2.1,List.length_nil]at u3 u4;refine⟨ro7.2.1,ro7.2.2.2,u1,u2,?_,?_⟩
   ·show (enY S7 R7 t).out.length≤300;have:(enY S7 R7 t).out.length≤R5.out.length+(enW S7).length:=by rw[enY,ro7.1,ro7.2.2.1];exact u3
    omega
   ·show (enY S7 R7 t).go.length≤300;have:(enY S7 R7 t).go.length≤0+(enW S7).length:=by rw[enY,ro7.1,ro7.2.2.1];exact u4
    omega
  ·exact⟨ro7.2.1,ro7.2.2.2,by rw[ro7.1];exact ob5,(fun z hz=>by rw[ro7.2.2.1]at hz;cases hz),by rw[ro7.1];omega,by rw[ro7.2.2.1];simp⟩
 obtain⟨S9,hS9⟩:∃x,x=moS S8 R8:=⟨_,rfl⟩
 obtain⟨R9,hR9⟩:∃x,x=moR S8 R8:=⟨_,rfl⟩
 have e9:tk9 s=(S9,R9):=by rw[hS9,hR9];show (moS (tk8 s).1 (tk8 s).2,moR (tk8 s).1 (tk8 s).2)=_;rw[e8]
 have ti9:Zq S9 29256:=hS9 ▸ Ycg ti8 R8 (Nat.le_refl _);rw[e8]at hA8;simp only at hA8;refine Z5 func22 rfl (rs:=[_,_,_]) rfl rfl ZW (by kernel_rfl) rfl rfl fun ap nd=>?_;clear ap nd;refine xx ?_;refine Z0 fun b1 nb1 zb1=>?_;(try simp only[ZU]at nb1);refine xx ?_;refine Z0 fun b2 nb2 zb2=>?_;(try simp only[ZU]at nb2);have n21:=nb2.1;refine xx ?_;refine Z0 fun b3 nb3 zb3=>?_;(try simp only[ZU]at nb3);have n32:=nb3.1;have n31:=nb3.2.1;clear nb1 nb2 nb3;refine xx ?_;refine GH (s:=s) ⟨.slice pa s.purses.length pc,.slice ma s.members.length mc,.slice ea s.entry.length ec,.slice xa s.exit.length xc,.slice oa s.pool.length oc,.slice da s.dues.length dc,.slice ta s.motions.length tc,.slice ka s.marks.length kc,.slice ra s.ring.length rc⟩ hs fewS ?_;rw[hf];refine xx ?_;refine Ym (.tk 2 (.tk 5 (.tk 6 (.tkl 0 (.tkl 3 (.tk 4 (.tkl 7 (.o1 1 (.tk 8 (.o1 9 (.tk 10 (.fin)) (.nil))) (.nil))))))))) (by kernel_rfl) (by kernel_rfl) _ (Za.refl _ _) ?_;refine xx ?_;refine Zpf (s:=s) ⟨.slice pa s.purses.length pc,.slice ma s.members.length mc,.slice ea s.entry.length ec,.slice xa s.exit.length xc,.slice oa s.pool.length oc,.slice da s.dues.length dc,.slice ta s.motions.length tc,.slice ka s.marks.length kc,.slice ra s.ring.length rc⟩ hs few fun h1 u om oe ox le1 okm oke okx i1=>?_
 first
 | refine xkp ((Za.oent _ _ _ _ _ _).trans ((Za.oent _ _ _ _ _ _).trans ((Za.oent _ _ _ _ _ _).trans (Za.forget le1)))) ?_
 | skip
 refine xx ?_;refine Z0 fun b5 nb5 zb5=>?_;(try simp only[ZU]at nb5);have n5:=Yt (Yt (Yt nb5));simp only[ZU]at n5;have n53:=n5.1;have n52:=n5.2.1;have n51:=n5.2.2.1;clear nb5 n5;obtain⟨up,um,ue,ux,uo,ud,ut,uk,ur⟩:=u;obtain⟨iok,ip,_,_,_,_,io,ioo,idd,iddo,it,ik,ir⟩:=i1;simp only[Yfq]at ip io ioo idd iddo it ik ir;obtain⟨upa,upc,rfl,_⟩:=ip.open;obtain⟨uoa,uoc,rfl,_⟩:=io.open;obtain⟨uda,udc,rfl,_⟩:=idd.open;obtain⟨uka,ukc,rfl,_⟩:=ik.open;obtain⟨uq,it1,it2,it3⟩:=it;obtain⟨uta,utc,rfl,_⟩:=it1.open;obtain⟨uqr,ir1,ir2⟩:=ir;obtain⟨ura,urc,rfl,_⟩:=ir1.open;have hqm:uq.length=s.motions.length:=by rw[← it2,List.length_map]
 have hqr:uqr.length=s.ring.length:=by rw[← ir2,VA]
 rw[hqm]at it1 ⊢;rw[hqr]at ir1 ⊢;refine xx ?_;refine xkp ((Za.tail _ _ _).trans ((Za.oent _ _ _ _ _ _).trans ((Za.oent _ _ _ _ _ _).trans ((Za.oent _ _ _ _ _ _).trans (Za.forget le1))))) ?_;refine xx ?_;obtain⟨N,hN⟩:∃N,N=s.members.length:=⟨_,rfl⟩
 obtain⟨V0,hV0⟩:∃V0:SV,V0=⟨.slice upa s.purses.length upc,ovs om s.members.length,ovs oe s.entry.length,ovs ox s.exit.length,.slice uoa s.pool.length uoc,.slice uda s.dues.length udc,.slice uta s.motions.length utc,.slice uka s.marks.length ukc,.slice ura s.ring.length urc⟩:=⟨_,rfl⟩
 refine Zb.fin (Zb.weaken (Za.perm _ Ynf) (Znw (s:=s) (v:=⟨.slice upa s.purses.length upc,ovs om s.members.length,ovs oe s.entry.length,ovs ox s.exit.length,.slice uoa s.pool.length uoc,.slice uda s.dues.length udc,.slice uta s.motions.length utc,.slice uka s.marks.length ukc,.slice ura s.ring.length urc⟩) (r:=r0P s) (q:=⟨.slice none 0 0,.slice none 0 0,.slice none 0 0,.slice none 0 0⟩) (w:=s.par.wait) (om:=om) ti hA1 ik rfl okm fun h2 le2=>ZP ?_));rw[← hS2,← hR2];refine xx ?_;have one:∀(a b c d e:Value),a.oneCell'=true→b.oneCell'=true→c.oneCell'=true→d.oneCell'=true→e.oneCell'=true→∀(n1 n2 n3:Nat) (f:Value),f.oneCell'=true→Yhl ⟨a,ovs om n1,ovs oe n2,ovs ox n3,b,c,d,e,f⟩:=fun a b c d e ha hb hc hd he n1 n2 n3 f hf=>⟨ha,oneO _ _,oneO _ _,oneO _ _,hb,hc,hd,he,hf⟩
 have p2:S2.purses=s.purses:=by rw[hS2];rfl
 refine Zty (s:=S2) (v:=⟨.slice upa s.purses.length upc,ovs om s.members.length,ovs oe s.entry.length,ovs ox s.exit.length,.slice uoa s.pool.length uoc,.slice uda s.dues.length udc,.slice uta s.motions.length utc,.slice uka s.marks.length ukc,.slice ura s.ring.length urc⟩) (om:=om) ti2 ra2 rp2 (one _ _ _ _ _ rfl rfl rfl rfl rfl _ _ _ _ rfl) (by rw[p2];exact ip.up le2) (by rw[f2.k];exact ik.up le2) (by rw[f2.l]) (by rw[f2.l];exact okm) fun h3 pv3 le3 i3=>?_;rw[← hS3]at i3;rw[← hS3,← hR3];obtain⟨pa3,pc3,rfl,_⟩:=i3.open;have le13:=le2.trans le3;refine xx ?_;refine Zpn (s:=S3) (v:=⟨.slice pa3 S3.purses.length pc3,ovs om s.members.length,ovs oe s.entry.length,ovs ox s.exit.length,.slice uoa s.pool.length uoc,.slice uda s.dues.length udc,.slice uta s.motions.length utc,.slice uka s.marks.length ukc,.slice ura s.ring.length urc⟩) (om:=om) ti3 rb3 rf3 (one _ _ _ _ _ rfl rfl rfl rfl rfl _ _ _ _ rfl) (by rw[f3.k];exact ik.up le13) (by rw[f3.l]) (by rw[f3.l];exact okm) ?_;rw[← hS4,← hR4,← x4];refine xx ?_;refine Zb.fin (Zb.weaken (Za.perm _ Yce) (Zcr (s:=S4) (v:=⟨.slice pa3 S3.purses.length pc3,ovs om s.members.length,ovs oe s.entry.length,ovs ox S4.exit.length,.slice uoa s.pool.length uoc,.slice uda s.dues.length udc,.slice uta s.motions.length utc,.slice uka s.marks.length ukc,.slice ura s.ring.length urc⟩) (om:=om) (oo:=none) (ox:=ox) ti4 (by decide) (by rw[d4];exact idd.up le13) (by rw[f4.l]) (by rw[f4.l];exact okm) hw rfl (by rw[x4];exact okx) rfl (by rw[ro4.1];rfl) (by rw[ro4.1];simp) fun h5 dv5 oo5 le5 i5 ok5=>ZP ?_));rw[f4.ep,← hte,← hS5]at i5;rw[← hR5]at ok5;rw[f4.ep,← hte,← hS5,← hR5];obtain⟨da5,dc5,rfl,_⟩:=i5.open;have le15:=le13.trans le5;have okx5:okO ox S5.exit.length:=Zmo okx (by rw[hS5,← x4];exact Zec _ _ _ _);refine xx ?_
 refine Zb.fin (Zb.weaken (Za.perm _ Yks) (Zoo (s:=S5) (v:=⟨.slice pa3 S3.purses.length pc3,ovs om s.members.length,ovs oe s.entry.length,ovs ox S5.exit.length,.slice uoa s.pool.length uoc,.slice da5 S5.dues.length dc5,.slice uta s.motions.length utc,.slice uka s.marks.length ukc,.slice ura s.ring.length urc⟩) (om:=om) (ox:=ox) ti5 (by decide) hw (by rw[p5,p4];exact i3.up le5) i5 (by rw[f5.l]) (by rw[f5.l];exact okm) rfl okx5 fun h7 xo pv7 dv7 lv7 le7 okx7 i7p i7d i7l=>ZP ?_));rw[f5.ep,← hte,← hS7]at okx7 i7p i7d;rw[f5.ep,← hte,← hS7,← hR7];obtain⟨pa7,pc7,rfl,_⟩:=i7p.open;obtain⟨da7,dc7,rfl,_⟩:=i7d.open;obtain⟨la7,lc7,rfl,_⟩:=i7l.open;have le17:=le15.trans le7;refine xx ?_;rw[← f7.e,← ro7.1];refine Zb.fin (Zb.weaken (Za.perm _ Ypd) (Zot (s:=S7) (v:=⟨.slice pa7 S7.purses.length pc7,ovs om s.members.length,ovs oe S7.entry.length,ovs xo S7.exit.length,.slice uoa s.pool.length uoc,.slice da7 S7.dues.length dc7,.slice uta s.motions.length utc,.slice uka s.marks.length ukc,.slice ura s.ring.length urc⟩) (om:=om) (oe:=oe) (os:=none) (oo:=oo5) (ox:=xo) (r:=R7) ti7 (by decide) hw (by rw[ro7.1];omega) (by rw[ro7.2.2.1];simp) i7p i7d (by rw[f7.o];exact io.up le17) (by rw[f7.l]) (by rw[f7.l];exact okm) rfl (by rw[f7.e];exact oke) rfl okx7 rfl (by rw[ro7.1];exact ok5) rfl (by rw[ro7.2.2.1];rfl) fun h8 pv8 dv8 ov8 om8 oe8 os8 oo8 le8 i8p i8d i8o okm8 oke8 oks8 oko8 okx8=>ZP ?_));rw[f7.ep,← hte,← hS8]at i8p i8d i8o okm8 oke8 okx8;rw[f7.ep,← hte,← hR8]at oks8 oko8;rw[f7.ep,← hte,← hS8,← hR8];obtain⟨pa8,pc8,rfl,_⟩:=i8p.open;obtain⟨da8,dc8,rfl,_⟩:=i8d.open;obtain⟨oa8,oc8,rfl,_⟩:=i8o.open;have le18:=le17.trans le8;refine xx ?_
 refine Zb.fin (Zb.weaken (Za.perm _ Yce) (Zb.apn (Zpx (s:=S8) (v:=⟨.slice pa8 S8.purses.length pc8,ovs om8 S8.members.length,ovs oe8 S8.entry.length,ovs xo S8.exit.length,.slice oa8 S8.pool.length oc8,.slice da8 S8.dues.length dc8,.slice uta s.motions.length utc,.slice uka s.marks.length ukc,.slice ura s.ring.length urc⟩) (om:=om8) (od:=none) (r:=R8) ti8 hA8 (by rw[ro8.2.1];simp) i8p ⟨uq,it1.up le18,it2.trans (g8.trans f7.t).symm,fun x hx=>(it3 x hx).up le18⟩ rfl okm8 rfl (by rw[ro8.2.1];rfl) fun h9 pv9 tv9 od9 le9 i9p i9t okd9 ap nd=>⟨_,_,Za.perm _ Ysh,?_⟩)));have hb5:h9 b5=noC:=ap.1;obtain⟨hb3,hb2,hb1,_⟩:=Ap.oent (Ap.oent (Ap.oent (Ap.oent (Ap.oent (Ap.oent ap.2)))));simp only at hb3 hb2 hb1;clear ap nd;rw[← hS9]at i9p i9t;rw[← hR9]at okd9;rw[← hS9,← hR9];have m9:S9.members=S8.members:=by rw[hS9];rfl
 have en9:S9.entry=S8.entry:=by rw[hS9];rfl
 have x9:S9.exit=S8.exit:=by rw[hS9];rfl
 have d9:S9.dues=S8.dues:=by rw[hS9];rfl
 have o9:S9.pool=S8.pool:=by rw[hS9];rfl
 have k9:S9.marks=s.marks:=by rw[hS9];exact c8.trans f7.k
 have r9:S9.ring=s.ring:=by rw[hS9];exact d8.trans f7.r
 have ep9:S9.ep=s.ep:=by rw[hS9];exact b8.trans f7.ep
 have ro9:R9.out=R8.out∧R9.left=R8.left∧R9.started=R8.started:=by rw[hR9];exact⟨rfl,rfl,rfl⟩
 have dn9:(∀z∈R9.done,0≤z∧z<((128:Nat):Int)):=by
  rw[hR9];have hmn:=ti8.mn;have hL:(moL S8).length=S8.motions.length:=List.length_map _;exact Ymj (by decide) (fun z hz=>by have:=(Zng (s:=S8) R8).2 z hz;omega) (fun z hz=>by rw[ro8.2.1]at hz;cases hz) _ (Nat.le_refl _)
 rw[← m9]at okm8;rw[← en9]at oke8;rw[← x9]at okx8;rw[← ro9.1]at oko8;rw[← ro9.2.2]at oks8;rw[← m9,← en9,← x9,← ro9.1,← ro9.2.2];obtain⟨pa9,pc9,rfl,_⟩:=i9p.open;obtain⟨q9,i9t1,i9t2,i9t3⟩:=i9t;obtain⟨ta9,tc9,rfl,_⟩:=i9t1.open;have le19:=le18.trans le9;have i8d9:Zj Yx 3 h9 (.slice da8 S8.dues.length dc8) S9.dues:=by rw[d9];exact i8d.up le9
 have i8o9:Zj Zbb 4 h9 (.slice oa8 S8.pool.length oc8) S9.pool:=by rw[o9];exact i8o.up le9
 refine xx ?_;refine Ym (.tk 0 (.tk 1 (.tk 2 (.tk 3 (.tk 5 (.tkl 4 (.tkl 6 (.tk 7 (.fin))))))))) (by kernel_rfl) (by kernel_rfl) _ (Za.refl _ _) ?_;simp -dsimp -implicitDefEqProofs (disch:=first|with_reducible assumption|omega) [go_sem,Yqr];refine WE (fun c=>?_) (fun c=>?_)
 ·have e10:UT s=(S9,R9):=by rw[UT,e9,if_pos c]
  have eT:Vo s=seS S9:=by rw[Vo,e10]
  have eR:JW s=R9:=by rw[JW,e10]
  have tiE:Zq S9 29400:=ti9.mono (by decide);have iP:=i9p;have iD:=i8d9;have kE:=k9;have rE:=r9;have mE:S9.motions=S9.motions:=rfl;have oE:S9.pool=S9.pool:=rfl;have nE:S9.entry=S9.entry:=rfl;have okmE:=okm8;have okxE:=okx8;have okoE:=oko8;have obE:∀z∈R9.out,0≤z∧z<((128:Nat):Int):=by rw[ro9.1];exact ro8.2.2.1
  have olE:R9.out.length≤1000:=by rw[ro9.1];omega
  have leE:=le19;have leE9:=PH.le_refl h9;have lE:R9.left=lvW S5∧R9.started=R9.started∧R9.done=R9.done:=⟨ro9.2.1.trans ro8.1,rfl,rfl⟩
  refine xx ?_;have ml10:S9.members.length≤128:=tiE.ml;have lenS:(seS S9).members.length=S9.members.length:=WF _ _ _;refine Zb.fin (Zb.weaken (Za.perm _ Ycv) (Zb.apn (GV (s:=S9) (v:=⟨.slice pa9 S9.purses.length pc9,ovs om8 S9.members.length,ovs oe8 S9.entry.length,ovs xo S9.exit.length,.slice oa8 S8.pool.length oc8,.slice da8 S8.dues.length dc8,.slice ta9 q9.length tc9,.slice uka s.marks.length ukc,.slice ura s.ring.length urc⟩) (om:=om8) (r:=R9) (q:=⟨ovs oo8 R9.out.length,.slice la7 (lvW S5).length lc7,ovs os8 R9.started.length,ovs od9 R9.done.length⟩) tiE (by rw[kE];exact ik.up leE) ⟨uqr,ir1.up leE,ir2.trans rE.symm⟩ (by rw[rE];exact few.r) (by rw[rE];exact few.b) (by rw[kE];exact few.k) rfl okmE fun hz kvz rvz lez iz1 iz2 ap nd=>?_)));obtain⟨kza,kzc,rfl,_⟩:=iz1.open;obtain⟨qz,z1,z2⟩:=iz2;obtain⟨rza,rzc,rfl,_⟩:=z1.open;have ap:=Ap.perm Zcc ap;have nd:=Nd.perm Zcc nd;have eln:=Vj tiE.en;have elx:=Vj tiE.ex;obtain⟨g1,l1,dr1,sl1,ap,nd⟩:=Ue (n:=(seS S9).members.length) (by rw[lenS];exact okmE) (Z1 Z9 _) (by omega) ap nd;obtain⟨g2,l2,dr2,sl2,ap,nd⟩:=Ue (n:=R9.out.length) (sz:=1) okoE (by simp) (by omega) ap nd;obtain⟨g3,l3,dr3,sl3,ap,nd⟩:=Ue (n:=S9.exit.length) (sz:=1) okxE (by simp) (by omega) ap nd;obtain⟨g4,l4,dr4,sl4,ap,nd⟩:=Ue (n:=R9.done.length) (sz:=1) okd9 (by simp) (JR okd9) ap nd;obtain⟨g5,l5,dr5,sl5,ap,nd⟩:=Ue (n:=S9.entry.length) (sz:=1) oke8 (by simp) (JR oke8) ap nd;obtain⟨g6,l6,dr6,sl6,ap,nd⟩:=Ue (n:=R9.started.length) (sz:=1) oks8 (by simp) (JR oks8) ap nd;refine⟨_,_,(Za.perm _ Zcc).trans (dr1.trans (dr2.trans (dr3.trans (dr4.trans (dr5.trans dr6))))),?_⟩;obtain⟨hc5,hc3,hc2,hc1,_⟩:=ap;simp only at hc5 hc3 hc2 hc1;clear nd dr1 dr2 dr3 dr4 dr5 dr6;have m56:=l5.trans l6;have m46:=l4.trans m56;have m36:=l3.trans m46;have m26:=l2.trans m36;have mz6:=lez.trans (l1.trans m26)
  have hIS:Zp g6 ⟨.slice pa9 S9.purses.length pc9,ovs om8 S9.members.length,ovs oe8 S9.entry.length,ovs xo S9.exit.length,.slice oa8 S8.pool.length oc8,.slice da8 S8.dues.length dc8,.slice ta9 q9.length tc9,.slice kza (List.replicate 16 (0:Int)).length kzc,.slice rza qz.length rzc⟩ (Vo s):=by
   rw[eT];have hn:=tiE.ok.n;have hp1:=tiE.ep;simp only[List.forall_mem_cons]at hn;refine⟨⟨tiE.ok.p,tiE.ok.u,?_⟩,iP.up mz6,?_,?_,?_,?_,?_,fun x hx=>(tiE.oo x hx).1,iD.up mz6,fun x hx=>(tiE.dd x hx).1,⟨q9,i9t1.up (leE9.trans mz6),i9t2.trans mE.symm,fun x hx=>(i9t3 x hx).up (leE9.trans mz6)⟩,iz1.up (l1.trans m26),?_⟩
   ·show ∀z∈[S9.ep+1,S9.calm],_;simp only[List.forall_mem_cons];exact⟨by omega,hn.2⟩
   ·have:=Zj.pub (f:=YE) (w:=6) (l:=(seS S9).members) (o:=om8) Z9 (sl1.up m26);rw[lenS]at this;exact this
   ·exact Zfb Ze (fun m hm=>Zib tiE.ok.p tiE.r hm) tiE.be.m _ (Nat.le_refl _)
   ·exact US (st:=1) (by show U1 S9.members S9.entry 1;exact tiE.en) ml10 (by show Sl _ _ S9.entry.length 1 (S9.entry.map _);rw[nE];exact sl5.up l6)
   ·exact US (st:=3) (by show U1 S9.members S9.exit 3;exact tiE.ex) ml10 (sl3.up m46)
   ·show Zj Zbb 4 g6 _ S9.pool;rw[oE];exact i8o9.up (leE9.trans mz6)
   ·exact⟨qz,z1.up (l1.trans m26),z2⟩
  have hRP:Zx g6 ⟨ovs oo8 R9.out.length,.slice la7 (lvW S5).length lc7,ovs os8 R9.started.length,ovs od9 R9.done.length⟩ (JW s):=by
   rw[eR];refine⟨Yjj (sl2.up m36) fun z hz=>by have:=obE z hz;omega,by rw[lE.1];exact i7l.up ((le8.trans (le9.trans leE9)).trans mz6),?_,?_⟩
   ·rw[lE.2.1];exact Yjj sl6 fun z hz=>by have:=ro8.2.2.2.1 z (by rw[← ro9.2.2];exact hz);omega
   ·rw[lE.2.2];exact Yjj (sl4.up m56) fun z hz=>by have:=dn9 z hz;omega
  have hk:=hk g6 _ _ (le1.trans (leE.trans mz6)) hIS hRP;rw[eT,eR]at hk;refine xx ?_;refine Ym (.tk 0 (.tk 1 (.tk 2 (.tk 4 (.tk 5 (.tk 6 (.tkl 3 (.o1 7 (.o2 8 (.o2 9 (.tk 10 (.fin)) (.nil)) (.nil)) (.o2 8 (.o1 7 (.o2 9 (.tk 10 (.fin)) (.nil)) (.nil)) (.nil)))))))))) (by kernel_rfl) (by kernel_rfl) _ (Za.refl _ _) ?_
  repeat' first
   | with_reducible refine Yf ?_ ?_
   | simp -dsimp -implicitDefEqProofs (disch:=first|with_reducible assumption|omega) [go_sem]
   | fail
  all_goals exact ZO (ZO (ZO (ZO (ZP hk))))
 ·have e10:UT s=Yec t (ajS S9,R9):=by rw[UT,e9,if_neg c,show atP s=t from hte.symm]
  refine xx ?_;refine Zb.fin (Zb.weaken (Za.perm _ permT5) (Zka (s:=S9) (v:=⟨.slice pa9 S9.purses.length pc9,ovs om8 S9.members.length,ovs oe8 S9.entry.length,ovs xo S9.exit.length,.slice oa8 S8.pool.length oc8,.slice da8 S8.dues.length dc8,.slice ta9 q9.length tc9,.slice uka s.marks.length ukc,.slice ura s.ring.length urc⟩) (om:=om8) (oo:=oo8) (ox:=xo) (r:=R9) (q:=⟨ovs oo8 R9.out.length,.slice la7 (lvW S5).length lc7,ovs os8 R9.started.length,ovs od9 R9.done.length⟩) ti9 (by decide) i9p i8d9 rfl okm8 hw rfl okx8 rfl oko8 (by rw[ro9.1];omega) fun h10 pv10 d10 oo10 le10 i10p i10d ok10=>⟨_,_,Za.perm _ permT5.symm,?_⟩));rw[ep9,← hte]at i10d ⊢;have tiE:Zq (ejS (ajS S9) t (ajS S9).members.length) 29400:=by
   have h1:Zq (ajS S9) 29256:=Zrm ti9 (Nat.le_refl _);exact(Zey h1 ht (Nat.le_refl _)).mono (by have:=h1.ml;omega)
  have l10:(ejS (ajS S9) t (ajS S9).members.length).members.length=S9.members.length:=(Zym (ajS S9) t).l.trans (V7 S9.par (S9.members,S9.purses) S9.members.length).1;have x10:(ejS (ajS S9) t (ajS S9).members.length).exit.length≤S9.exit.length:=Zec _ _ _ _;have ou10:(ejR (ajS S9) R9 (ajS S9).members.length).out=R9.out++ouN (ajS S9).par (ajS S9).members (ajS S9).members.length:=rfl;have la10:(ajS S9).members.length≤128:=by rw[show (ajS S9).members.length=S9.members.length from(V7 S9.par (S9.members,S9.purses) S9.members.length).1];exact ti9.ml
  obtain⟨S10,hS10⟩:∃x,x=ejS (ajS S9) t (ajS S9).members.length:=⟨_,rfl⟩
  obtain⟨R10,hR10⟩:∃x,x=ejR (ajS S9) R9 (ajS S9).members.length:=⟨_,rfl⟩
  rw[← hS10]at i10d tiE l10 x10;rw[← hR10]at ok10 ou10;rw[← hS10,← hR10];have eT:Vo s=seS S10:=by rw[Vo,e10,hS10];rfl
  have eR:JW s=R10:=by rw[JW,e10,hR10];rfl
  have eP10:(ajS S9).purses=S10.purses:=by rw[hS10];rfl
  rw[eP10]at i10p;obtain⟨pa10,pc10,rfl,_⟩:=i10p.open;obtain⟨da10,dc10,rfl,_⟩:=i10d.open;have iP:=i10p;have iD:=i10d;have kE:S10.marks=s.marks:=by rw[hS10];exact k9
  have rE:S10.ring=s.ring:=by rw[hS10];exact r9
  have mE:S10.motions=S9.motions:=by rw[hS10];rfl
  have oE:S10.pool=S9.pool:=by rw[hS10];rfl
  have nE:S10.entry=S9.entry:=by rw[hS10];rfl
  have okmE:okO om8 S10.members.length:=by rw[l10];exact okm8
  have okxE:okO xo S10.exit.length:=Zmo okx8 x10;have okoE:=ok10;have obE:∀z∈R10.out,0≤z∧z<((128:Nat):Int):=fun z hz=>by
   rw[ou10]at hz;rcases List.mem_append.1 hz with hz|hz
   ·rw[ro9.1]at hz;exact ro8.2.2.1 z hz
   ·have:=Ywm _ _ _ z hz;omega
  have olE:R10.out.length≤1000:=by
   rw[ou10,List.length_append,ro9.1];have:=Zdq (ajS S9).par (ajS S9).members (ajS S9).members.length;omega
  have leE:=le19.trans le10;have leE9:=le10;have lE:R10.left=lvW S5∧R10.started=R9.started∧R10.done=R9.done:=by rw[hR10];exact⟨ro9.2.1.trans ro8.1,rfl,rfl⟩
  refine xx ?_;have ml10:S10.members.length≤128:=tiE.ml;have lenS:(seS S10).members.length=S10.members.length:=WF _ _ _;refine Zb.fin (Zb.weaken (Za.perm _ Ycv) (Zb.apn (GV (s:=S10) (v:=⟨.slice pa10 S10.purses.length pc10,ovs om8 S9.members.length,ovs oe8 S9.entry.length,ovs xo S10.exit.length,.slice oa8 S8.pool.length oc8,.slice da10 S10.dues.length dc10,.slice ta9 q9.length tc9,.slice uka s.marks.length ukc,.slice ura s.ring.length urc⟩) (om:=om8) (r:=R10) (q:=⟨ovs oo10 R10.out.length,.slice la7 (lvW S5).length lc7,ovs os8 R9.started.length,ovs od9 R9.done.length⟩) tiE (by rw[kE];exact ik.up leE) ⟨uqr,ir1.up leE,ir2.trans rE.symm⟩ (by rw[rE];exact few.r) (by rw[rE];exact few.b) (by rw[kE];exact few.k) (by rw[l10]) okmE fun hz kvz rvz lez iz1 iz2 ap nd=>?_)));obtain⟨kza,kzc,rfl,_⟩:=iz1.open;obtain⟨qz,z1,z2⟩:=iz2;obtain⟨rza,rzc,rfl,_⟩:=z1.open;have ap:=Ap.perm Zcc ap;have nd:=Nd.perm Zcc nd;have eln:=Vj tiE.en;have elx:=Vj tiE.ex;obtain⟨g1,l1,dr1,sl1,ap,nd⟩:=Ue (n:=(seS S10).members.length) (by rw[lenS];exact okmE) (Z1 Z9 _) (by omega) ap nd;obtain⟨g2,l2,dr2,sl2,ap,nd⟩:=Ue (n:=R10.out.length) (sz:=1) okoE (by simp) (by omega) ap nd;obtain⟨g3,l3,dr3,sl3,ap,nd⟩:=Ue (n:=S10.exit.length) (sz:=1) okxE (by simp) (by omega) ap nd;obtain⟨g4,l4,dr4,sl4,ap,nd⟩:=Ue (n:=R9.done.length) (sz:=1) okd9 (by simp) (JR okd9) ap nd;obtain⟨g5,l5,dr5,sl5,ap,nd⟩:=Ue (n:=S9.entry.length) (sz:=1) oke8 (by simp) (JR oke8) ap nd;obtain⟨g6,l6,dr6,sl6,ap,nd⟩:=Ue (n:=R9.started.length) (sz:=1) oks8 (by simp) (JR oks8) ap nd;refine⟨_,_,(Za.perm _ Zcc).trans (dr1.trans (dr2.trans (dr3.trans (dr4.trans (dr5.trans dr6))))),?_⟩;obtain⟨hc5,hc3,hc2,hc1,_⟩:=ap;simp only at hc5 hc3 hc2 hc1;clear nd dr1 dr2 dr3 dr4 dr5 dr6;have m56:=l5.trans l6;have m46:=l4.trans m56;have m36:=l3.trans m46;have m26:=l2.trans m36;have mz6:=lez.trans (l1.trans m26)
  have hIS:Zp g6 ⟨.slice pa10 S10.purses.length pc10,ovs om8 S9.members.length,ovs oe8 S9.entry.length,ovs xo S10.exit.length,.slice oa8 S8.pool.length oc8,.slice da10 S10.dues.length dc10,.slice ta9 q9.length tc9,.slice kza (List.replicate 16 (0:Int)).length kzc,.slice rza qz.length rzc⟩ (Vo s):=by
   rw[eT];have hn:=tiE.ok.n;have hp1:=tiE.ep;simp only[List.forall_mem_cons]at hn;refine⟨⟨tiE.ok.p,tiE.ok.u,?_⟩,iP.up mz6,?_,?_,?_,?_,?_,fun x hx=>(tiE.oo x hx).1,iD.up mz6,fun x hx=>(tiE.dd x hx).1,⟨q9,i9t1.up (leE9.trans mz6),i9t2.trans mE.symm,fun x hx=>(i9t3 x hx).up (leE9.trans mz6)⟩,iz1.up (l1.trans m26),?_⟩
   ·show ∀z∈[S10.ep+1,S10.calm],_;simp only[List.forall_mem_cons];exact⟨by omega,hn.2⟩
   ·have:=Zj.pub (f:=YE) (w:=6) (l:=(seS S10).members) (o:=om8) Z9 (sl1.up m26);rw[lenS]at this;exact(by rw[l10]at this;exact this)
   ·exact Zfb Ze (fun m hm=>Zib tiE.ok.p tiE.r hm) tiE.be.m _ (Nat.le_refl _)
   ·exact US (st:=1) (by show U1 S10.members S10.entry 1;exact tiE.en) ml10 (by show Sl _ _ S10.entry.length 1 (S10.entry.map _);rw[nE];exact sl5.up l6)
   ·exact US (st:=3) (by show U1 S10.members S10.exit 3;exact tiE.ex) ml10 (sl3.up m46)
   ·show Zj Zbb 4 g6 _ S10.pool;rw[oE];exact i8o9.up (leE9.trans mz6)
   ·exact⟨qz,z1.up (l1.trans m26),z2⟩
  have hRP:Zx g6 ⟨ovs oo10 R10.out.length,.slice la7 (lvW S5).length lc7,ovs os8 R9.started.length,ovs od9 R9.done.length⟩ (JW s):=by
   rw[eR];refine⟨Yjj (sl2.up m36) fun z hz=>by have:=obE z hz;omega,by rw[lE.1];exact i7l.up ((le8.trans (le9.trans leE9)).trans mz6),?_,?_⟩
   ·rw[lE.2.1];exact Yjj sl6 fun z hz=>by have:=ro8.2.2.2.1 z (by rw[← ro9.2.2];exact hz);omega
   ·rw[lE.2.2];exact Yjj (sl4.up m56) fun z hz=>by have:=dn9 z hz;omega
  have hk:=hk g6 _ _ (le1.trans (leE.trans mz6)) hIS hRP;rw[eT,eR]at hk;refine xx ?_;refine Ym (.tk 0 (.tk 1 (.tk 2 (.tk 4 (.tk 5 (.tk 6 (.tkl 3 (.o1 7 (.o2 8 (.o2 9 (.tk 10 (.fin)) (.nil)) (.nil)) (.o2 8 (.o1 7 (.o2 9 (.tk 10 (.fin)) (.nil)) (.nil)) (.nil)))))))))) (by kernel_rfl) (by kernel_rfl) _ (Za.refl _ _) ?_
  repeat' first
   | with_reducible refine Yf ?_ ?_
   | simp -dsimp -implicitDefEqProofs (disch:=first|with_reducible assumption|omega) [go_sem]
   | fail
  all_goals exact ZO (ZO (ZO (ZO (ZP hk))))
theorem Ylo {s:Zf}{D:Nat}(ti:Zq s D)(ms:∀m∈s.members,MI s.par m):Zq (tk7 s).1 (D+192)∧Fr s (tk7 s).1∧Zq (tk8 s).1 (D+256)∧(∀m∈(tk8 s).1.members,MI s.par m∧MF s.par m)∧(tk8 s).1.par=s.par∧(tk8 s).1.ep=s.ep∧(tk8 s).1.members.length≤128:=by
 have hpc:=Ya ti.r;have hep:=ti.ep;have hml:=ti.ml;have hA:=Zli ti.ml ms;have ht:0≤atP s∧atP s≤2147483647:=by unfold atP;omega
 have hact:0≤U0 s∧U0 s≤18446744073709551615:=by
  have:=Jz (ks:=s.marks) ti.be.m;have e:U0 s=Zap s.members:=rfl;omega
 have ti2:Zq (tk2 s).1 D:=Ygs ti;have f2:Fr s (tk2 s).1:=Ydt s;have m2:∀m∈(tk2 s).1.members,MI s.par m:=wg_ms ti ms;have ra2:0≤(tk2 s).2.act∧(tk2 s).2.act≤18446744073709551615:=hact;obtain⟨S2,hS2⟩:∃x,x=(tk2 s).1:=⟨_,rfl⟩
 obtain⟨R2,hR2⟩:∃x,x=(tk2 s).2:=⟨_,rfl⟩
 have rb2:R2.burned=0:=by rw[hR2];rfl
 have e3:tk3 s=(mtS S2 R2,mtR S2 R2):=by rw[hS2,hR2];rfl
 rw[← hS2]at ti2 f2 m2;rw[← hR2]at ra2;have ti3:=Yeq ti2 ra2;have f3:=f2.next (Yet S2 R2);have m3:∀m∈(mtS S2 R2).members,MI s.par m:=by
  rw[← f2.par]at m2 ⊢;exact Yot ti2 ra2 m2 _ (Nat.le_refl _)
 have rb3:(mtR S2 R2).burned=0:=rb2;obtain⟨S3,hS3⟩:∃x,x=mtS S2 R2:=⟨_,rfl⟩
 obtain⟨R3,hR3⟩:∃x,x=mtR S2 R2:=⟨_,rfl⟩
 rw[← hS3]at ti3 f3 m3 e3;rw[← hR3]at rb3 e3;have e4:tk4 s=(fnS S3 R3,fnR S3 R3 S3.members.length):=by unfold tk4;rw[e3]
 have ti4:=Yhc ti3 rb3;have f4:=f3.next (Ygg S3 R3);have m4:∀m∈(fnS S3 R3).members,MI s.par m:=by
  rw[← f3.par]at m3 ⊢;exact fn_ms ti3 R3 m3
 obtain⟨S4,hS4⟩:∃x,x=fnS S3 R3:=⟨_,rfl⟩
 rw[← hS4]at ti4 f4 m4 e4;have e5:(tk5 s).1=ejS S4 (atP s) S4.members.length:=by unfold tk5;rw[e4];rfl
 have ti5:=Zey ti4 ht (Nat.le_refl S4.members.length);have f5:=f4.next (Zym S4 (atP s));have m5:∀m∈(ejS S4 (atP s) S4.members.length).members,MI s.par m∧MF s.par m:=by
  rw[← f4.par]at m4 ⊢;exact Yso ti4.r _ m4
 rw[← e5]at ti5 f5 m5;have l4:=f4.l;have ti7:Zq (tk7 s).1 (D+192):=(Ymh ti5 ht).mono (by omega);have f7:Fr s (tk7 s).1:=f5.next (Ygd (tk5 s).1 (atP s));have m7:∀m∈(tk7 s).1.members,MI s.par m∧MF s.par m:=by
  rw[← f5.par]at m5 ⊢;exact Yln ti5.r (atP s) _ m5 _
 have ti8:Zq (tk8 s).1 (D+256):=Ysm ti7 (tk7 s).2 ht;have m8:∀m∈(tk8 s).1.members,MI s.par m∧MF s.par m:=by
  rw[← f7.par]at m7 ⊢;exact en_ms ti7 (tk7 s).2 (atP s) m7
 obtain⟨a8,b8,_⟩:=Yqt (tk7 s).1 (tk7 s).2 (atP s);exact⟨ti7,f7,ti8,m8,a8.trans f7.par,b8.trans f7.ep,ti8.ml⟩
structure Rs (a b:Zi):Prop where
 ep:b.ep=a.ep
 mode:b.mode=a.mode
 quo:b.quo=a.quo
 pres:b.pres=a.pres
 act:b.act=a.act
 mint:b.mint=a.mint
 paid:b.paid=a.paid
 kept:b.kept=a.kept
theorem Rs.next {a b c:Zi}(h:Rs a b)(h2:Rs b c):Rs a c:=⟨h2.ep.trans h.ep,h2.mode.trans h.mode,h2.quo.trans h.quo,h2.pres.trans h.pres,h2.act.trans h.act,h2.mint.trans h.mint,h2.paid.trans h.paid,h2.kept.trans h.kept⟩
theorem calm7 (s:Zf):(tk7 s).1.calm=(Uu s.calm (Zcb s) (U0 s)).1:=rfl
theorem Ygt (s:Zf)(r:Zi)(t:Int):(enS s r t).calm=s.calm:=by
 unfold enS;split<;>rfl
theorem Yfb (s:Zf)(r:Zi)(t:Int):(Yec t (ajS s,r)).1.calm=s.calm:=rfl
theorem Yhd (s:Zf)(r:Zi):(moS s r).calm=s.calm:=rfl
theorem Yhs (s:Zf):(seS s).calm=s.calm:=rfl
theorem Zrb (s:Zf):(Vo s).calm=(Uu s.calm (Zcb s) (U0 s)).1:=by
 have e8:(tk8 s).1.calm=(Uu s.calm (Zcb s) (U0 s)).1:=(Ygt (tk7 s).1 (tk7 s).2 (atP s)).trans (calm7 s);have e9:(tk9 s).1.calm=(tk8 s).1.calm:=Yhd (tk8 s).1 (tk8 s).2;have e10:(UT s).1.calm=(tk9 s).1.calm:=by
  by_cases c:(tk9 s).1.par=s.par
  ·rw[UT,if_pos c]
  ·rw[UT,if_neg c];exact Yfb _ _ _
 have eS:(Vo s).calm=(UT s).1.calm:=Yhs (UT s).1;rw[eS,e10,e9,e8]
def DuP (l:List Zg):Prop:=Gu l∧∀x∈l,(0≤x.at'∧x.at'≤2147483647)∧1≤x.amt
theorem Zii {l:List Zg}(h:DuP l){d:Zg}(ht:0≤d.at'∧d.at'≤2147483647)(h0:0≤d.amt):DuP (Jn l d):=by
 refine⟨Zzh h.1 d,fun x hx=>?_⟩;by_cases c:d.amt=0
 ·rw[Jn,if_pos c]at hx;exact h.2 x hx
 ·rcases Zee hx with hx|rfl | ⟨h1,rfl⟩
  ·exact h.2 x hx
  ·exact⟨ht,by omega⟩
  ·have h2:=h.2 _ (JX h1);refine⟨h2.1,?_⟩;show 1≤(gr ZZ l (Zhx l d)).amt+d.amt;omega
theorem Ygh {l:List Zg}(h:DuP l)(q:Zg→Bool):DuP (l.filter q) :=
 ⟨h.1.sublist (List.filter_sublist.map Zbl),fun x hx=>h.2 x (List.mem_filter.1 hx).1⟩
theorem bal0 {m:Zc}(mo:Ze m):0≤m.bal:=(mo.u m.bal (by simp)).1
theorem Ydo {q:Zd}{cs:List Zc}(hm:∀m∈cs,Ze m){t:Int}(ht:0≤t∧t≤2147483647){ds:List Zg}(h:DuP ds):∀k,k≤cs.length→DuP (duN q cs t ds k)
 | 0,_=>h
 | k+1,hk=>by
  have ih:=Ydo (q:=q) hm ht h k (by omega);rw[duN];split
  ·exact Zii ih ht (bal0 (hm _ (Yr (z:=ZT) (k:=k) (by omega))))
  ·exact ih
theorem Ycn {s:Zf}{D:Nat}(ti:Zq s D){t:Int}(ht:0≤t∧t≤2147483647)(h:DuP s.dues):∀k,k≤(lvW s).length→DuP (lvK t (lvW s) (s.members,s.dues) k).2
 | 0,_=>h
 | k+1,hk=>by
  have ih:=Ycn ti ht h k (by omega);have lv:=(Zri ti ht (k:=k) (by omega)).1;show DuP (Jn (lvK t (lvW s) (s.members,s.dues) k).2 (U3 t (gr ZT (lvK t (lvW s) (s.members,s.dues) k).1 (at0 (lvW s) k).toNat)));refine Zii ih ht ?_;have hw:=(Ywc ti).2.2 (at0 (lvW s) k) (by rw[← Yh (by omega)];exact List.getElem_mem _);have l1:=lv.l1;exact bal0 (lv.m _ (Yr (z:=ZT) (k:=(at0 (lvW s) k).toNat) (by simp only at l1;omega)))
theorem Ydg {s:Zf}{D:Nat}(ti:Zq s D)(r:Zi){t:Int}(ht:0≤t∧t≤2147483647)(h:DuP s.dues):∀k,k≤(enW s).length→DuP (stK s.par t (enW s) ⟨(enX s).ms,s.dues,s.exit,r.out,r.started⟩ k).ds
 | 0,_=>h
 | k+1,hk=>by
  have ih:=Ydg ti r ht h k (by omega);have st:=Zwg ti r ht (k:=k) (by omega);have hd0:(enW s).drop k=at0 (enW s) k::(enW s).drop (k+1):=by rw[List.drop_eq_getElem_cons (by omega),Yh (by omega)]
  have hin:=Vx st.e (z:=at0 (enW s) k) (by rw[hd0];simp);rw[stK,Gn];split
  ·exact ih
  ·refine Zii ih ht ?_;exact bal0 (st.m _ (Yr (z:=ZT) (k:=(at0 (enW s) k).toNat) (by omega)))
structure Fz (s S:Zf):Prop where
 k:S.marks=s.marks
 r:S.ring=s.ring
 pn:S.purses.length=s.purses.length
 ml:s.members.length≤S.members.length
 o:S.pool=s.pool∨S.pool=[]
 du:DuP s.dues→DuP S.dues
theorem Fz.next {s S S':Zf}(h:Fz s S)(h2:Fz S S'):Fz s S' :=
 ⟨h2.k.trans h.k,h2.r.trans h.r,h2.pn.trans h.pn,Nat.le_trans h.ml h2.ml,by
  rcases h2.o with e|e
  ·rw[e];exact h.o
  ·exact .inr e,fun x=>h2.du (h.du x)⟩
theorem fz_wg (s:Zf):Fz s (wgS s):=⟨rfl,rfl,rfl,Nat.le_of_eq (Ydt s).l.symm,.inl rfl,id⟩
theorem fz_mt {s:Zf}{D:Nat}(ti:Zq s D){r:Zi}(ha:0≤r.act∧r.act≤18446744073709551615):Fz s (mtS s r) :=
 ⟨rfl,rfl,(Yqu ti ha (Nat.le_refl _)).l2,Nat.le_of_eq (Yet s r).l.symm,.inl rfl,id⟩
theorem fz_fn (s:Zf)(r:Zi):Fz s (fnS s r):=⟨rfl,rfl,rfl,Nat.le_of_eq (Ygg s r).l.symm,.inl rfl,id⟩
theorem Yla {s:Zf}{D:Nat}(ti:Zq s D){t:Int}(ht:0≤t∧t≤2147483647):Fz s (ejS s t s.members.length) :=
 ⟨rfl,rfl,rfl,Nat.le_of_eq (Zym s t).l.symm,.inl rfl,fun h=>Ydo ti.be.m ht h _ (Nat.le_refl _)⟩
theorem fz_lv {s:Zf}{D:Nat}(ti:Zq s D){t:Int}(ht:0≤t∧t≤2147483647):Fz s (lvS s t) :=
 ⟨rfl,rfl,(Zfl ti.be.p (lv_d ti ht) _ (Nat.le_refl _)).1,Nat.le_of_eq (Ygd s t).l.symm,.inl rfl,fun h=>Ygh (Ycn ti ht h _ (Nat.le_refl _)) _⟩
theorem fz_en {s:Zf}{D:Nat}(ti:Zq s D)(r:Zi){t:Int}(ht:0≤t∧t≤2147483647):Fz s (enS s r t):=by
 have hx:=Yil ti;have st:=Zwg ti r ht (Nat.le_refl (enW s).length);unfold enS;split
 ·refine⟨rfl,rfl,hx.1.l2,?_,.inr rfl,fun h=>Ydg ti r ht h _ (Nat.le_refl _)⟩;show s.members.length≤(enY s r t).ms.length;have h1:(enY s r t).ms.length=(enX s).ms.length:=st.l1;omega
 ·exact⟨rfl,rfl,rfl,Nat.le_refl _,.inl rfl,id⟩
theorem fz_mo {s:Zf}{D:Nat}(ti:Zq s D)(r:Zi):Fz s (moS s r) :=
 ⟨rfl,rfl,(mo_k ti r (Nat.le_refl _)).l2,Nat.le_refl _,.inl rfl,id⟩
theorem fz_aj (s:Zf):Fz s (ajS s) :=
 ⟨rfl,rfl,(V7 s.par (s.members,s.purses) s.members.length).2,Nat.le_of_eq (V7 s.par (s.members,s.purses) s.members.length).1.symm,.inl rfl,id⟩
theorem Ych {s:Zf}{D:Nat}(ti:Zq s D)(ms:∀m∈s.members,MI s.par m):Zq (UT s).1 (D+384)∧Fz s (UT s).1∧∀m∈(UT s).1.members,MI (UT s).1.par m∧MF (UT s).1.par m:=by
 obtain⟨ti7,f7,ti8,m8,p8,e8,l8⟩:=Ylo ti ms;have hpc:=Ya ti.r;have hep:=ti.ep;have hml:=ti.ml;have hA:=Zli ti.ml ms;have ht:0≤atP s∧atP s≤2147483647:=by unfold atP;omega
 have hact:0≤U0 s∧U0 s≤18446744073709551615:=by
  have:=Jz (ks:=s.marks) ti.be.m;have e:U0 s=Zap s.members:=rfl;omega
 have ti2:Zq (tk2 s).1 D:=Ygs ti;have z2:Fz s (tk2 s).1:=fz_wg s;have ra2:0≤(tk2 s).2.act∧(tk2 s).2.act≤18446744073709551615:=hact;obtain⟨S2,hS2⟩:∃x,x=(tk2 s).1:=⟨_,rfl⟩
 obtain⟨R2,hR2⟩:∃x,x=(tk2 s).2:=⟨_,rfl⟩
 have rb2:R2.burned=0:=by rw[hR2];rfl
 have e3:tk3 s=(mtS S2 R2,mtR S2 R2):=by rw[hS2,hR2];rfl
 rw[← hS2]at ti2 z2;rw[← hR2]at ra2;have ti3:=Yeq ti2 ra2;have z3:=z2.next (fz_mt ti2 ra2);have rb3:(mtR S2 R2).burned=0:=rb2;obtain⟨S3,hS3⟩:∃x,x=mtS S2 R2:=⟨_,rfl⟩
 obtain⟨R3,hR3⟩:∃x,x=mtR S2 R2:=⟨_,rfl⟩
 rw[← hS3]at ti3 z3 e3;rw[← hR3]at rb3 e3;have e4:tk4 s=(fnS S3 R3,fnR S3 R3 S3.members.length):=by unfold tk4;rw[e3]
 have ti4:=Yhc ti3 rb3;have z4:=z3.next (fz_fn S3 R3);obtain⟨S4,hS4⟩:∃x,x=fnS S3 R3:=⟨_,rfl⟩
 rw[← hS4]at ti4 z4 e4;have e5:(tk5 s).1=ejS S4 (atP s) S4.members.length:=by unfold tk5;rw[e4];rfl
 have ti5:=Zey ti4 ht (Nat.le_refl S4.members.length);have z5:=z4.next (Yla ti4 ht);rw[← e5]at ti5 z5;have z7:Fz s (tk7 s).1:=z5.next (fz_lv ti5 ht);have z8:Fz s (tk8 s).1:=z7.next (fz_en ti7 (tk7 s).2 ht);have ti9:Zq (tk9 s).1 (D+256):=Ycg ti8 (tk8 s).2 (Nat.le_refl _);have z9:Fz s (tk9 s).1:=z8.next (fz_mo ti8 (tk8 s).2);have m9:∀m∈(tk9 s).1.members,MI s.par m∧MF s.par m:=m8;obtain⟨S9,hS9⟩:∃x,x=(tk9 s).1:=⟨_,rfl⟩
 rw[← hS9]at ti9 z9 m9;by_cases c:(tk9 s).1.par=s.par
 ·have e10:(UT s).1=S9:=by rw[UT,if_pos c,hS9]
  rw[← hS9]at c;rw[e10];refine⟨ti9.mono (by omega),z9,?_⟩;rw[c];exact m9
 ·have e10:(UT s).1=ejS (ajS S9) (atP s) (ajS S9).members.length:=by rw[UT,if_neg c,hS9];rfl
  have tj:Zq (ajS S9) (D+256):=Zrm ti9 (Nat.le_refl _);rw[e10];refine⟨(Zey tj ht (Nat.le_refl _)).mono (by have:=tj.ml;omega),z9.next ((fz_aj S9).next (Yla tj ht)),?_⟩;exact Yso tj.r _ (aj_ms (p:=s.par) ti9.r fun m hm=>(m9 m hm).1)
theorem Jh (q:Zd)(m:Zc):(JN q m).status=m.status∧(JN q m).owner=m.owner:=by
 unfold JN;split<;>exact⟨rfl,rfl⟩
theorem chk0:Zbm (List.replicate 16 0) 128=true:=by decide
theorem get0:∀ i:Nat,i<128→Vb (List.replicate 16 0) i=false:=by decide +kernel
theorem Ysi (s:Zf)(r:Zi)(t:Int):(enS s r t).ep=s.ep:=by
 unfold enS;split<;>rfl
theorem Ynd (s:Zf)(r:Zi)(t:Int):(Yec t (ajS s,r)).1.ep=s.ep:=rfl
theorem Ylk (s:Zf)(r:Zi):(moS s r).ep=s.ep:=rfl
theorem Yqp (s:Zf):(seS s).ep=s.ep+1:=rfl
theorem ep7' (s:Zf):(tk7 s).1.ep=s.ep:=rfl
theorem Yac (s:Zf):(Vo s).ep=s.ep+1:=by
 have e8:(tk8 s).1.ep=s.ep:=(Ysi (tk7 s).1 (tk7 s).2 (atP s)).trans (ep7' s);have e9:(tk9 s).1.ep=(tk8 s).1.ep:=Ylk (tk8 s).1 (tk8 s).2;have e10:(UT s).1.ep=(tk9 s).1.ep:=by
  by_cases c:(tk9 s).1.par=s.par
  ·rw[UT,if_pos c]
  ·rw[UT,if_neg c];exact Ynd _ _ _
 have eS:(Vo s).ep=(UT s).1.ep+1:=Yqp (UT s).1;rw[eS,e10,e9,e8]
theorem Zvy {h:PH}{v:SV}{s:Zf}(hs:Zp h v s)(hf:Wi s=true)(he:s.ep<1073741824):Wi (Vo s)=true:=by
 have ti:=Zzq hs hf he (Nat.le_refl s.dues.length);obtain⟨t10,z10,m10⟩:=Ych ti fun m hm=>(Yfk hs hf m hm).1;obtain⟨f1,f2,f3,f4,f5,f6,f7,f8,f9⟩:=fitsT_iff.1 hf;have hc:=Zrb s;have hcb:=Zrt (calm:=s.calm) (pr:=Zcb s) (ac:=U0 s);have hpe:=Yac s;have eS:Vo s=seS (UT s).1:=rfl;obtain⟨S,hS⟩:∃x,x=(UT s).1:=⟨_,rfl⟩
 rw[← hS]at t10 z10 m10 eS;have hl:(seS S).members.length=S.members.length:=WF _ _ _;have hsum:=t10.sum;obtain⟨b1,b2,b3,b4,b5,b6⟩:=t10.parts;have hep:=t10.ep;have hac:∀i,VI (seS S) i=true↔0≤i∧i<(s.purses.length:Int):=fun i=>by
  rw[acctT_iff,← z10.pn];exact Iff.rfl
 simp only[Ju,Bool.and_eq_true,List.all_eq_true,decide_eq_true_eq,Zgu,Zhy,List.mem_range,Bool.not_eq_true']at f6
 have hdu0:DuP s.dues:=⟨line_iff.2 fun k hk=>⟨(f6.2 k hk).1.2,(f6.2 k hk).2⟩,fun x hx=>by
  obtain⟨k,hk,rfl⟩:=List.mem_iff_getElem.1 hx;have:=(f6.2 k hk).1.1;rw[Yc hk]at this;simp only[J1,Bool.and_eq_true,wi_iff,decide_eq_true_eq]at this
  exact⟨this.1.1.2,this.1.2⟩⟩
 have hdu:=z10.du hdu0;rw[fitsT_iff,hc,hpe,eS];refine⟨t10.r,?_,?_,?_,?_,?_,?_,?_,?_⟩
 ·rw[wi_iff];have:=ti.ep;omega
 ·rw[wi_iff];exact hcb
 ·simp only[Uq,Bool.and_eq_true,List.all_eq_true,decide_eq_true_eq,wi_iff]at f4 ⊢;refine⟨?_,fun z hz=>?_⟩
  ·show 1≤(S.purses.length:Int)∧(S.purses.length:Int)≤64;rw[z10.pn];exact f4.1
  ·obtain⟨k,hk,rfl⟩:=List.mem_iff_getElem.1 (show z∈S.purses from hz);have:=Yk t10.be.p k;rw[Yh hk];omega
 ·simp only[WK,Bool.and_eq_true,List.all_eq_true,decide_eq_true_eq];refine⟨⟨⟨by rw[hl];exact t10.ml,fun m hm=>?_⟩,?_⟩,?_⟩
  ·have e:(seS S).members=S.members.map (JN S.par):=Zeh _ _;rw[e]at hm;obtain⟨x,hx,rfl⟩:=List.mem_map.1 hm;have h1:=m10 x hx;have h2:=t10.be.o x hx;refine⟨Yer t10.r h1.1 h1.2,?_⟩;rw[(Jh _ _).2,hac,← z10.pn];exact h2
  ·rw[row_iffB];exact JG t10.en hl fun j hj=>by
    show (gr ZT (upN (JN S.par) S.members S.members.length) j).status=1↔_;rw[Zad _ _ _ (Nat.le_refl _),if_pos hj,(Jh _ _).1]
  ·rw[row_iffB];exact JG t10.ex hl fun j hj=>by
    show (gr ZT (upN (JN S.par) S.members S.members.length) j).status=3↔_;rw[Zad _ _ _ (Nat.le_refl _),if_pos hj,(Jh _ _).1]
 ·simp only[Ju,Bool.and_eq_true,List.all_eq_true,decide_eq_true_eq,Zgu,Zhy,List.mem_range,Bool.not_eq_true'];refine⟨⟨t10.on,fun d hd=>?_⟩,fun k hk=>?_⟩
  ·have hd':d∈s.pool:=by
    have hd2:d∈S.pool:=hd;rcases z10.o with e|e
    ·rw[← e];exact hd2
    ·rw[e]at hd2;cases hd2
   have h1:=f6.1.2 d hd';have hmm:=z10.ml;simp only[Zaw,Bool.and_eq_true,Bool.or_eq_true,wi_iff]at h1 ⊢;refine⟨⟨h1.1.1,(hac _).2 (acctT_iff.1 h1.1.2)⟩,h1.2.imp id fun c=>?_⟩;rw[hl];omega
  ·have hk':k<S.dues.length:=hk;have h1:=(line_iff.1 hdu.1) k hk';refine⟨⟨?_,h1.1⟩,h1.2⟩;have h2:=hdu.2 _ (JX hk');have h3:=t10.dd _ (JX hk');have h4:=Ztd (fun x hx=>(t10.dd x hx).1) hk';show J1 (seS S) (gr ZZ S.dues k)=true;simp only[J1,Bool.and_eq_true,decide_eq_true_eq,wi_iff];refine⟨⟨⟨(hac _).2 (by rw[← z10.pn];exact h3.2),h2.1⟩,h2.2⟩,by omega⟩
 ·simp only[Vv,Bool.and_eq_true,List.all_eq_true,decide_eq_true_eq];refine⟨t10.mn,fun m hm=>?_⟩;have h1:=t10.mm m hm;exact⟨⟨h1.f,(hac _).2 (by rw[← z10.pn];exact h1.a)⟩,(hac _).2 (by rw[← z10.pn];exact h1.t)⟩
 ·simp only[JJ,Zex,Bool.and_eq_true,List.all_eq_true,decide_eq_true_eq]at f8 ⊢;refine⟨⟨⟨?_,chk0⟩,fun b hb=>?_⟩,fun i hi=>?_⟩
  ·show (Zhd S.ring S.marks).length≤8;rw[Zhd,List.length_cons,List.length_take];omega
  ·rcases List.mem_cons.1 (show b∈Zhd S.ring S.marks from hb) with rfl|hb
   ·rw[z10.k];exact f8.1.1.2
   ·rw[z10.r]at hb;exact f8.1.2 b (List.mem_of_mem_take hb)
  ·rw[Bool.or_eq_true,Bool.not_eq_true'];exact .inr (get0 i (List.mem_range.1 hi))
 ·simp only[WR,Bool.and_eq_true,decide_eq_true_eq];refine⟨t10.top,?_⟩;have hm:=t10.mon;have e1:Ztu (seS S)=tot (S.members.map Zc.bal):=by
   show tot ((upN (JN S.par) S.members S.members.length).map Zc.bal)=_;rw[Ygy _ _ rfl]
  have e2:Zqr (seS S)=tot S.purses:=rfl;have e3:GU (seS S)=tot (S.pool.map Zn.amt):=rfl;have e4:Zvu (seS S)=Wm S.dues:=rfl;rw[Zql,e1,e2,e3,e4];show _+S.treas+S.burn=S.gen+S.mint;omega
def Zer:Zd where
 inc:=10
 maxEff:=30
 floor:=10
 cap:=40
 up:=10
 down:=5
 bias:=4
 quot:=100
 biasEm:=8
 quotEm:=50
 recover:=2
 scoreCap:=100
 rate:=1048576
 bond:=1
 delay:=2
 streak:=4
 boost:=100
 absent:=100
 burn:=5000
 churn:=2
 wait:=2
 poll:=2
 enact:=1
 quorum:=3000
def Zak:Zz:=⟨Zer,1073741824,[500,200],[⟨0,25⟩,⟨1,40⟩]⟩
theorem Zyq:Zh Zer:=by
 constructor
 ·intro z hz;simp only[YA,Zer,List.mem_cons,List.not_mem_nil,or_false]at hz;omega
 ·intro z hz;simp only[Y9,Zer,List.mem_cons,List.not_mem_nil,or_false]at hz;omega
theorem Zfa (hk:K (W5 Zer) L h):Zb prog 167 [] L h K:=by
 refine ZR func167 rfl (rs:=[_]) rfl rfl ZW (by kernel_rfl) rfl rfl ?_;refine xx ?_;refine Z0 fun b0 nb0 zb0=>?_;(try simp only[ZU]at nb0);refine xx ?_;exact ZO (ZP hk)
theorem Zhh (hk:∀h' pa pc fa fc,PH.le h h'→ZG h' (.slice pa 2 pc) (.slice fa 2 fc) Zak→K (genV Zak (.slice pa 2 pc) (.slice fa 2 fc)) L h'):Zb prog 58 [] L h K:=by
 refine ZR func58 rfl (rs:=[_]) rfl rfl ZW (by kernel_rfl) rfl rfl ?_;refine xx ?_;refine Z0 fun b0 nb0 zb0=>?_;(try simp only[ZU]at nb0);refine xx ?_;refine Zfa ?_;refine xx ?_;refine Z0 fun b1 nb1 zb1=>?_;(try simp only[ZU]at nb1);refine xx ?_;refine Z0 fun b2 nb2 zb2=>?_;(try simp only[ZU]at nb2);refine xx ?_;have s1:Sl (pub h b1 [.int .u64 500,.int .u64 200]) (.slice (some ⟨b1,0,none⟩) 2 2) 2 1 [.int .u64 500,.int .u64 200]:=Vc (o:=some (b1,2)) ⟨Nat.le_refl _,by simp [maxLen]⟩ rfl (by decide);have s2:Sl (pub (pub h b1 [.int .u64 500,.int .u64 200]) b2 [.int .i64 0,.int .u64 25,.int .i64 1,.int .u64 40]) (.slice (some ⟨b2,0,none⟩) 2 2) 2 2 [.int .i64 0,.int .u64 25,.int .i64 1,.int .u64 40]:=Vc (o:=some (b2,2)) ⟨Nat.le_refl _,by simp [maxLen]⟩ rfl (by decide);have n2:(pub h b1 [.int .u64 500,.int .u64 200]) b2=noC:=Gz (o:=some (b1,2)) (by first|exact nb2.1|exact Ne.symm nb2.1) zb2;have l1:=Zfg (h:=h) zb1 [.int .u64 500,.int .u64 200];have l2:=Zfg n2 [.int .i64 0,.int .u64 25,.int .i64 1,.int .u64 40];refine⟨L,_,?_,hk _ _ _ _ _ (l1.trans l2) ⟨Zyq,by decide,⟨s1.up l2,fun z hz=>?_⟩,⟨Zxw,s2⟩,fun x hx=>?_⟩⟩
 ·first
  | exact(Za.perm _ (List.Perm.swap _ _ _)).trans ((WV b1 _ _ _ [] _ h (by decide)).trans ((WV b2 _ _ _ [] _ _ (by decide)).trans (Za.tail _ _ _)))
  | exact(WV b1 _ _ _ [_] _ h (by decide)).trans ((WV b2 _ _ _ [] _ _ (by decide)).trans (Za.tail _ _ _))
 ·simp only[Zak,List.mem_cons,List.not_mem_nil,or_false]at hz;rw[show IntKind.u64.min=0 by decide,show IntKind.u64.max=18446744073709551615 by decide];omega
 ·simp only[Zak,List.mem_cons,List.not_mem_nil,or_false]at hx;rcases hx with rfl|rfl
  ·exact⟨by decide,by decide⟩
  ·exact⟨by decide,by decide⟩
def simpS:Zf:=⟨Zer,1073741824,765,0,0,0,0,0,false,[500,200],[⟨25,20,0,0,0,2⟩,⟨40,30,0,0,1,2⟩],[],[],[],[],[],List.replicate 16 0,[]⟩
theorem Zhc:Zna Zak=true:=by decide +kernel
theorem Yaa:Ydj Zak=simpS:=by
 rw[Ydj,Zhc];show Ycl Zak=simpS;have e1:tot (Vq Zak)=765:=by decide +kernel
 have e2:YX Zer 25=20:=by decide +kernel
 have e3:YX Zer 40=30:=by decide +kernel
 rw[Ycl,e1];simp only[simpS,Zak,List.map_cons,List.map_nil,Zuv,e2,e3]
theorem Zjf {pv fv:Value}(hg:ZG h pv fv Zak)(hk:∀h' u,PH.le h h'→Zp h' u simpS→K (.tuple #[stV simpS u,.int .i64 0]) L h'):Zb prog 57 [genV Zak pv fv] L h K:=by
 have e:=Yaa;refine Yfj pv fv hg (by decide) fun h' u le hs=>?_;rw[e,Zhc]at *;exact hk h' u le hs
theorem Yfv {s:Zf}(ho:Zv s):ZD s:=⟨by have:=ho.p;omega,by have:=ho.m;omega,by have:=ho.e;omega,by have:=ho.x;omega,by have:=ho.o;omega,by have:=ho.d;omega,by have:=ho.t;omega,by have:=ho.r;omega⟩
theorem Zx.slices {q:RV}{r:Zi}(hq:Zx h q r):∃oa oc la lc sa sc da dc,q=⟨.slice oa r.out.length oc,.slice la r.left.length lc,.slice sa r.started.length sc,.slice da r.done.length dc⟩:=by
 obtain⟨qo,ql,qs,qd⟩:=q;obtain⟨h1,h2,h3,h4⟩:=hq;simp only at h1 h2 h3 h4;obtain⟨oa,oc,rfl,_⟩:=h1.open;obtain⟨la,lc,rfl,_⟩:=h2.open;obtain⟨sa,sc,rfl,_⟩:=h3.open;obtain⟨da,dc,rfl,_⟩:=h4.open;exact⟨oa,oc,la,lc,sa,sc,da,dc,rfl⟩
theorem Zx.up {h h':PH}(le:PH.le h h'){q:RV}{r:Zi}(hq:Zx h q r):Zx h' q r:=⟨hq.o.up le,hq.l.up le,hq.s.up le,hq.d.up le⟩
abbrev nilR:RV:=⟨.slice none 0 0,.slice none 0 0,.slice none 0 0,.slice none 0 0⟩
theorem Yar {s:Zf}(v:SV)(hs:Zp h v s)(few:Zv s)(fd:s.dues.length≤29000)
  (hk:Uw s=0→Wi s=true→s.ep<1073741824→∀h' u q,PH.le h h'→Zp h' u (Vo s)→Zx h' q (JW s)→K (.tuple #[stV (Vo s) u,rpV (JW s) q,.int .i64 0]) L h')
  (hno:Uw s≠0→K (.tuple #[stV VL Zjg,rpV Zpi nilR,.int .i64 (Uw s)]) L h) :
  Zb prog 22 [stV s v] L h K:=by
 by_cases hf:Wi s=true
 ·by_cases he:s.ep<1073741824
  ·have e0:Uw s=0:=by rw[Uw,if_pos hf,if_neg (by omega)]
   have ti:=Zzq hs hf he (Nat.le_refl s.dues.length);have ms:=Yfk hs hf;have t8:=Ylo ti fun m hm=>(ms m hm).1
   exact Zxd v hs few fd hf he (Zli ti.ml fun m hm=>(ms m hm).1) (by
    have:=Zli t8.2.2.2.2.2.2 fun m hm=>(t8.2.2.2.1 m hm).1;show Zap (tk8 s).1.members≤_
    omega) (hk e0 hf he)
  ·have e0:Uw s=200:=by rw[Uw,if_pos hf,if_pos (by omega)]
   have hno:=hno (by omega);rw[e0]at hno;have fewS:=Yfv few;obtain⟨pa,pc,ma,mc,ea,ec,xa,xc,oa,oc,da,dc,ta,tc,ka,kc,ra,rc,rfl⟩:=hs.slices;refine Z5 func22 rfl (rs:=[_,_,_]) rfl rfl ZW (by kernel_rfl) rfl rfl fun ap nd=>?_;clear ap nd;refine xx ?_;refine Z0 fun b1 nb1 zb1=>?_;(try simp only[ZU]at nb1);refine xx ?_;refine Z0 fun b2 nb2 zb2=>?_;(try simp only[ZU]at nb2);refine xx ?_;refine Z0 fun b3 nb3 zb3=>?_;(try simp only[ZU]at nb3);refine xx ?_;refine GH (s:=s) ⟨.slice pa s.purses.length pc,.slice ma s.members.length mc,.slice ea s.entry.length ec,.slice xa s.exit.length xc,.slice oa s.pool.length oc,.slice da s.dues.length dc,.slice ta s.motions.length tc,.slice ka s.marks.length kc,.slice ra s.ring.length rc⟩ hs fewS ?_;rw[hf];refine xx ?_;exact ZO (ZO (ZO (ZP hno)))
 ·have hf':Wi s=false:=by simpa using hf
  have e0:Uw s=291:=by rw[Uw,if_neg hf]
  have hno:=hno (by omega);rw[e0]at hno;have fewS:=Yfv few;obtain⟨pa,pc,ma,mc,ea,ec,xa,xc,oa,oc,da,dc,ta,tc,ka,kc,ra,rc,rfl⟩:=hs.slices;refine Z5 func22 rfl (rs:=[_,_,_]) rfl rfl ZW (by kernel_rfl) rfl rfl fun ap nd=>?_;clear ap nd;refine xx ?_;refine Z0 fun b1 nb1 zb1=>?_;(try simp only[ZU]at nb1);refine xx ?_;refine Z0 fun b2 nb2 zb2=>?_;(try simp only[ZU]at nb2);refine xx ?_;refine Z0 fun b3 nb3 zb3=>?_;(try simp only[ZU]at nb3);refine xx ?_;refine GH (s:=s) ⟨.slice pa s.purses.length pc,.slice ma s.members.length mc,.slice ea s.entry.length ec,.slice xa s.exit.length xc,.slice oa s.pool.length oc,.slice da s.dues.length dc,.slice ta s.motions.length tc,.slice ka s.marks.length kc,.slice ra s.ring.length rc⟩ hs fewS ?_;rw[hf'];refine xx ?_;exact ZO (ZO (ZO (ZP hno)))
theorem Zgb:Zv simpS:=by constructor<;>decide
theorem en_ep (s:Zf)(r:Zi)(t:Int):(enS s r t).ep=s.ep:=by
 unfold enS;split<;>rfl
theorem ej_ep (s:Zf)(r:Zi)(t:Int):(Yec t (ajS s,r)).1.ep=s.ep:=rfl
theorem mo_ep (s:Zf)(r:Zi):(moS s r).ep=s.ep:=rfl
theorem se_ep (s:Zf):(seS s).ep=s.ep+1:=rfl
theorem ep7 (s:Zf):(tk7 s).1.ep=s.ep:=rfl
theorem Yeo (s:Zf):(Vo s).ep=s.ep+1:=by
 have e8:(tk8 s).1.ep=s.ep:=(en_ep (tk7 s).1 (tk7 s).2 (atP s)).trans (ep7 s);have e9:(tk9 s).1.ep=(tk8 s).1.ep:=mo_ep (tk8 s).1 (tk8 s).2;have e10:(UT s).1.ep=(tk9 s).1.ep:=by
  by_cases c:(tk9 s).1.par=s.par
  ·rw[UT,if_pos c]
  ·rw[UT,if_neg c];exact ej_ep _ _ _
 have eS:(Vo s).ep=(UT s).1.ep+1:=se_ep (UT s).1;rw[eS,e10,e9,e8]
structure Mn (a b:Zf):Prop where
 mint:b.mint=a.mint
 burn:b.burn=a.burn
 gen:b.gen=a.gen
 most:b.most=a.most
theorem Mn.next {a b c:Zf}(h:Mn a b)(h2:Mn b c):Mn a c:=⟨h2.mint.trans h.mint,h2.burn.trans h.burn,h2.gen.trans h.gen,h2.most.trans h.most⟩
theorem Zue {bs:List Int}(hb:Zbm bs 128=true):bs.length=16:=by
 simp only[Zbm,Bool.and_eq_true,decide_eq_true_eq]at hb;have e:Zdm 128=16:=by decide
 omega
theorem Yfu (s:Zf):(seS s).dues=s.dues:=rfl
theorem Zlr {s:Zf}(hf:Wi s=true)(hd:s.dues.length≤34000):Zv s:=by
 obtain⟨f1,f2,f3,f4,f5,f6,f7,f8,f9⟩:=fitsT_iff.1 hf;simp only[Uq,Bool.and_eq_true,wi_iff]at f4;simp only[WK,Bool.and_eq_true,decide_eq_true_eq]at f5;have h1:=Vj (row_iffB.1 f5.1.2);have h3:=Vj (row_iffB.1 f5.2);have h5:=f5.1.1.1;simp only[Ju,Bool.and_eq_true,decide_eq_true_eq]at f6;simp only[Vv,Bool.and_eq_true,decide_eq_true_eq,List.all_eq_true]at f7;simp only[JJ,Zex,Bool.and_eq_true,decide_eq_true_eq,List.all_eq_true]at f8;have hk:=Zue f8.1.1.2;refine⟨by omega,by omega,by omega,by omega,by have:=f6.1.1;omega,hd,by have:=f7.1;omega,by omega,by omega,fun m hm=>?_,fun b hb=>by have:=Zue (f8.1.2 b hb);omega⟩;obtain⟨g1,g2,g3,g4,g5⟩:=motFits_iff.1 (f7.2 m hm).1.1;have:=Zue g3;have:=Zue g4;omega
theorem Zwq {h:PH}{v:SV}{s:Zf}(hs:Zp h v s)(hf:Wi s=true)(he:s.ep<1073741824):(Vo s).dues.length≤s.dues.length+384:=by
 have ti:=Zzq hs hf he (Nat.le_refl s.dues.length);have t10:=(Ych ti fun m hm=>(Yfk hs hf m hm).1).1;have e:(Vo s).dues=(UT s).1.dues:=Yfu (UT s).1;rw[e];exact t10.dn
def mkF (g m:List Int):Nat→List Int
 | 0=>m
 | k+1=>if Vb g k=true then Zhz (mkF g m k) k else mkF g m k
structure Yza (g m l:List Int)(k:Nat):Prop where
 n:l.length=m.length
 b:∀i,0≤at0 l i∧at0 l i≤255
 g:∀j:Nat,Vb l j=(Vb m j||(decide (j<k)&&Vb g j))
theorem Zuk {g m:List Int}(hm:∀i,0≤at0 m i∧at0 m i≤255):∀k,k≤8*m.length→Yza g m (mkF g m k) k
 | 0,_=>⟨rfl,hm,fun j=>by simp [mkF]⟩
 | k+1,hk=>by
  have ih:=Zuk (g:=g) hm k (by omega);have hn:=ih.n;rw[mkF];split
  ·rename_i c;have hin:(k:Int)/8<((mkF g m k).length:Int):=by rw[hn];omega
   have hb:=ih.b ((k:Int)/8).toNat;have ob:=Zde (at0 (mkF g m k) ((k:Int)/8).toNat) ((k:Int)%8).toNat hb.1 hb.2 (by omega);refine⟨by rw[Zhz,List.length_set];exact hn,fun i=>?_,fun j=>?_⟩
   ·rw[Zhz,Wy _ _ _ _ (by omega)];split
    ·exact⟨ob.1,ob.2.1⟩
    ·exact ih.b i
   ·rw[Zrr ih.b k (by omega) hin,ih.g j];by_cases e:j=k
    ·subst e;rw[c];simp
    ·have e1:decide ((j:Int)=k)=false:=by simp;omega
     have e2:decide (j<k+1)=decide (j<k):=by
      by_cases c2:j<k
      ·rw[decide_eq_true c2,decide_eq_true (by omega)]
      ·rw[decide_eq_false c2,decide_eq_false (by omega)]
     rw[e1,e2];simp
  ·rename_i c;refine⟨hn,ih.b,fun j=>?_⟩;rw[ih.g j];by_cases e:j=k
   ·subst e;have:Vb g j=false:=by simpa using c
    rw[this];simp
   ·have e2:decide (j<k+1)=decide (j<k):=by
     by_cases c2:j<k
     ·rw[decide_eq_true c2,decide_eq_true (by omega)]
     ·rw[decide_eq_false c2,decide_eq_false (by omega)]
    rw[e2]
def mkS (g:List Int)(s:Zf):Zf:={ s with marks:=mkF g s.marks s.members.length }
theorem Zcl {s:Zf}(hf:Wi s=true):s.marks.length=16∧s.members.length≤128:=by
 obtain⟨f1,f2,f3,f4,f5,f6,f7,f8,f9⟩:=fitsT_iff.1 hf;simp only[WK,Bool.and_eq_true,decide_eq_true_eq]at f5;simp only[JJ,Zex,Bool.and_eq_true,List.all_eq_true,decide_eq_true_eq]at f8;exact⟨Zue f8.1.1.2,f5.1.1.1⟩
theorem Znc {s:Zf}(hf:Wi s=true)(hm:∀i,0≤at0 s.marks i∧at0 s.marks i≤255)(g:List Int):Wi (mkS g s)=true:=by
 obtain⟨h16,h128⟩:=Zcl hf;have mk:=Zuk (g:=g) hm s.members.length (by omega);obtain⟨f1,f2,f3,f4,f5,f6,f7,f8,f9⟩:=fitsT_iff.1 hf;refine fitsT_iff.2 ⟨f1,f2,f3,f4,f5,f6,f7,?_,f9⟩;simp only[JJ,Zex,Bool.and_eq_true,List.all_eq_true,decide_eq_true_eq]at f8 ⊢;refine⟨⟨⟨f8.1.1.1,?_⟩,f8.1.2⟩,fun i hi=>?_⟩
 ·have e:Zdm 128=16:=by decide
  show Zbm (mkF g s.marks s.members.length) 128=true;rw[Zbm,mk.n,h16,e];simp
 ·have h2:=f8.2 i hi;simp only[Bool.or_eq_true,decide_eq_true_eq,Bool.not_eq_true']at h2 ⊢;by_cases c:i<s.members.length
  ·exact .inl c
  ·refine .inr ?_;show Vb (mkF g s.marks s.members.length) i=false;rw[mk.g i,decide_eq_false c,Bool.false_and,Bool.or_false];rcases h2 with h2|h2
   ·exact absurd h2 c
   ·exact h2
def Gh (plan:List (List Int))(i:Nat):List Int:=plan.getD (min i (plan.length-1)) []
def itS (plan:List (List Int))(s:Zf):Nat→Zf
 | 0=>s
 | k+1=>Vo (mkS (Gh plan k) (itS plan s k))
def itR (plan:List (List Int))(s:Zf)(k:Nat):Zi:=JW (mkS (Gh plan k) (itS plan s k))
theorem Zwa (g:List Int)(s:Zf):(mkS g s).ep=s.ep:=rfl
theorem Zlj (g:List Int)(s:Zf):(mkS g s).dues=s.dues:=rfl
theorem Ycd (plan:List (List Int))(s:Zf):∀k,(itS plan s k).ep=s.ep+k
 | 0=>by simp [itS]
 | k+1=>by
  rw[itS,Yeo,Zwa,Ycd plan s k];omega
structure ItI (plan:List (List Int))(s:Zf)(h:PH)(u:SV)(k:Nat):Prop where
 i:Zp h u (itS plan s k)
 f:Wi (itS plan s k)=true
 d:(itS plan s k).dues.length≤s.dues.length+384*k
theorem ItI.up {plan:List (List Int)}{s:Zf}{h h':PH}{u:SV}{k:Nat}(le:PH.le h h')(x:ItI plan s h u k):ItI plan s h' u k:=⟨x.i.up le,x.f,x.d⟩
theorem Zze (s:Zf)(hf:Wi s=true):Uw s=if s.ep<1073741824 then 0 else 200:=by
 rw[Uw,if_pos hf];by_cases c:s.ep<1073741824
 ·rw[if_pos c,if_neg (by omega)]
 ·rw[if_neg c,if_pos (by omega)]
theorem Zof {s:Zf}(v:SV)(hs:Zp h v s)(few:Zv s)(hk:∀h' u,PH.le h h'→Zp h' u s→K (stV s u) L h'):Zb prog 21 [stV s v] L h K:=by
 refine Zb.fin (Zb.apn (Zux v hs few fun h1 u o ox le ok1 ok2 hn ap nd=>?_));refine Zga (n1:=s.exit.length) (n2:=s.members.length) ok2 (by simp) (by have:=few.x;omega) ok1 (by rw[Z1 Z9]) (by have:=few.m;omega) ?_ ?_ fun h2 le2 sx sm=>ZP (hk h2 _ (le.trans le2) ?_)
 ·cases ox with
  | none=>trivial
  | some p=>exact⟨nd.1,ap.1⟩
 ·cases o with
  | none=>trivial
  | some q =>
   cases ox with
   | none=>exact⟨nd.1,ap.1⟩
   | some p=>exact⟨nd.2.1,ap.2.1⟩
 ·have hn2:=hn.up le2;exact { ok:=hs.ok,p:=hn2.p,m:=Zj.pub Z9 sm,mo:=hs.mo,e:=hn2.e,x:=⟨by simpa using sx,hs.x.2⟩,o:=hn2.o,oo:=hs.oo,d:=hn2.d,dd:=hs.dd,t:=hn2.t,k:=hn2.k,r:=hn2.r }
abbrev moV (s:Zf)(v:SV)(r:Zi)(q:RV)(w:Int):Value := .agg #[.int .u64 s.par.inc,.int .u64 s.par.maxEff,.int .u64 s.par.floor,.int .u64 s.par.cap,.int .u64 s.par.up,.int .u64 s.par.down,.int .u64 s.par.bias,.int .u64 s.par.quot,.int .u64 s.par.biasEm,.int .u64 s.par.quotEm,.int .u64 s.par.recover,.int .u64 s.par.scoreCap,.int .u64 s.par.rate,.int .u64 s.par.bond,.int .i64 s.par.delay,.int .i64 s.par.streak,.int .i64 s.par.boost,.int .i64 s.par.absent,.int .i64 s.par.burn,.int .i64 s.par.churn,.int .i64 s.par.wait,.int .i64 s.par.poll,.int .i64 s.par.enact,.int .i64 s.par.quorum,.int .u64 s.most,.int .u64 s.gen,.int .u64 s.mint,.int .u64 s.burn,.int .u64 s.treas,.int .i64 s.ep,.int .i64 s.calm,.bool s.emer,v.p,v.m,v.e,v.x,v.o,v.d,v.t,v.k,v.r,.int .i64 r.ep,.int .i64 r.mode,.bool r.quo,.int .u64 r.pres,.int .u64 r.act,.int .u64 r.mint,.int .u64 r.paid,.int .u64 r.kept,.int .u64 r.burned,.int .u64 r.fees,q.o,q.l,q.s,q.d,.int .i64 w]
theorem UD {pl:List QS}{pa:Option Addr}{pc:Nat}(hp:Zw h (.slice pa pl.length pc) pl)(i:Nat)(hi:i≤100000)(hk:∀gv,Ints h .u8 gv (Gh (xsL pl) i)→K gv L h):Zb prog 184 [.slice pa pl.length pc,.int .i64 i] L h K:=by
 obtain⟨a1,c1,e1,_,hl,_,hgc,hgd⟩:=hp.open;have hlen:(xsL pl).length=pl.length:=by simp [xsL]
 refine ZR func184 rfl (rs:=[_]) rfl rfl ZW (by kernel_rfl) rfl rfl ?_;refine xx ?_;by_cases c0:pl=[]
 ·have e0:Gh (xsL pl) i=[]:=by
   rw[c0];simp [Gh,xsL]
  rw[e0]at hk;refine xx ?_;exact ZP (hk _ (YO h .u8))
 ·obtain⟨m,hm⟩:∃m,m=min i (pl.length-1):=⟨_,rfl⟩
  have hnz:pl.length≠0:=fun e=>c0 (List.eq_nil_of_length_eq_zero e);have hml:m<pl.length:=by omega
  have eP:Gh (xsL pl) i=(gs pl m).2:=by
   rw[Gh,hlen,← hm,List.getD_eq_getElem?_getD,Yci hml];rfl
  have hg:=hp.at hml;rw[← eP]at hg;have hk:=hk _ hg;have em:min (i:Int) ((pl.length:Int)-1)=(m:Int):=by omega
  injection e1 with e2 e3 e4
  subst e2;simp -dsimp -implicitDefEqProofs (disch:=first|with_reducible assumption|omega) [go_sem,em,idx hgc];exact ZP hk
theorem Zun {s:Zf}(v:SV)(n:Int)(hs:Zp h v s)(few:Zv s)(hk:K (.int .i64 (if Wi s then (if n<0∨1000<n then 2 else 0) else 291)) L h):Zb prog 67 [stV s v,.int .i64 n] L h K:=by
 obtain⟨pa,pc,ma,mc,ea,ec,xa,xc,oa,oc,da,dc,ta,tc,ka,kc,ra,rc,rfl⟩:=hs.slices;refine ZR func67 rfl (rs:=[_]) rfl rfl ZW (by kernel_rfl) rfl rfl ?_;refine xx ?_;refine Z0 fun b2 nb2 zb2=>?_;(try simp only[ZU]at nb2);refine xx ?_;refine GH (s:=s) ⟨.slice pa s.purses.length pc,.slice ma s.members.length mc,.slice ea s.entry.length ec,.slice xa s.exit.length xc,.slice oa s.pool.length oc,.slice da s.dues.length dc,.slice ta s.motions.length tc,.slice ka s.marks.length kc,.slice ra s.ring.length rc⟩ hs (Yfv few) ?_
 cases hf:Wi s with
 | false =>
  rw[hf]at hk;simp only[Bool.false_eq_true,if_false]at hk;refine xx ?_;exact ZO (ZP hk)
 | true =>
  rw[hf]at hk;simp only[if_true]at hk;by_cases c1:n<0
  ·rw[if_pos (.inl c1)]at hk;refine xx ?_;exact ZO (ZP hk)
  by_cases c2:1000<n
  ·rw[if_pos (.inr c2)]at hk;refine xx ?_;exact ZO (ZP hk)
  rw[if_neg (by omega)]at hk;refine xx ?_;exact ZO (ZP hk)
theorem YR {s:Zf}{g:List Int}(v gv:Value)(w:SV)(hv:v=stV s w)(hs:Zp h w s)(few:Zv s)(hg:Ints h .u8 gv g)(h16:s.marks.length=16)(hl:s.members.length≤128)
  (hk:∀h' u,PH.le h h'→Zp h' u (mkS g s)→K (stV (mkS g s) u) L h'):Zb prog 183 [v,gv] L h K:=by
 subst hv;obtain⟨pa,pc,ma,mc,ea,ec,xa,xc,oa,oc,da,dc,ta,tc,ka,kc,ra,rc,rfl⟩:=hs.slices;obtain⟨ga,gc,rfl,_⟩:=hg.open;refine ZR func183 rfl (rs:=[_]) rfl rfl ZW (by kernel_rfl) rfl rfl ?_;refine xx ?_;refine Z0 fun b2 nb2 zb2=>?_;(try simp only[ZU]at nb2);refine xx ?_;refine Z0 fun b4 nb4 zb4=>?_;(try simp only[ZU]at nb4);have n42:=nb4.1;refine xx ?_;refine Zb.ap (Zof (s:=s) ⟨.slice pa s.purses.length pc,.slice ma s.members.length mc,.slice ea s.entry.length ec,.slice xa s.exit.length xc,.slice oa s.pool.length oc,.slice da s.dues.length dc,.slice ta s.motions.length tc,.slice ka s.marks.length kc,.slice ra s.ring.length rc⟩ hs few fun h1 u le1 is ap=>?_);have a14:h1 b4=noC:=ap.1;have a12:h1 b2=noC:=ap.2.1;clear ap;have is0:=is;obtain⟨pa2,pc2,ma2,mc2,ea2,ec2,xa2,xc2,oa2,oc2,da2,dc2,ta2,tc2,ka2,kc2,ra2,rc2,rfl⟩:=is.slices;refine xx ?_;have hmk:=fun k hk=>Zuk (g:=g) (m:=s.marks) (fun i=>is0.k.byte i) k hk;refine YJ (γ:=Nat×PH×Option Addr×Nat) (0,h1,ka2,kc2) (fun y=>y.1≤s.members.length∧PH.le h1 y.2.1∧Ints y.2.1 .u8 (.slice y.2.2.1 s.marks.length y.2.2.2) (mkF g s.marks y.1)∧y.2.1 b2=noC∧y.2.1 b4=noC)
  (fun y=>[(11,.int .i64 y.1),(10,.int .i64 s.members.length),(1,.slice ga g.length gc),(2,.pointer (some ⟨b2,0,none⟩)),(4,.pointer (some ⟨b4,0,none⟩))])
  (fun y=>⟨b4,34,stC VL Zjg,41⟩::⟨b2,34,stC s ⟨.slice pa2 s.purses.length pc2,.slice ma2 s.members.length mc2,.slice ea2 s.entry.length ec2,.slice xa2 s.exit.length xc2,.slice oa2 s.pool.length oc2,.slice da2 s.dues.length dc2,.slice ta2 s.motions.length tc2,.slice y.2.2.1 s.marks.length y.2.2.2,.slice ra2 s.ring.length rc2⟩,41⟩::L) (fun y=>y.2.1) (fun y=>s.members.length-y.1) ?_ ?_ ?_ ?_
 ·exact⟨Nat.zero_le _,PH.le_refl _,is0.k,a12,a14⟩
 ·simp [Ent,List.lookup,Wv]
 ·exact Za.refl _ _
 rintro⟨k,h2,ka3,kc3⟩ ⟨k1,le2,ik,a22,a24⟩;simp only at k1 le2 ik a22 a24 ⊢;by_cases c1:k<s.members.length
 ·refine xx ?_;refine Zab (bs:=g) _ (k:Int) (hg.up (le1.trans le2)) (by omega) ?_
  cases c2:Vb g k with
  | false =>
   refine xx ?_;refine⟨k+1,h2,ka3,kc3,⟨by omega,le2,?_,a22,a24⟩,by omega,by simp [Ent,List.lookup],Za.refl _ _⟩;rw[mkF,if_neg (by rw[c2];decide)];exact ik
  | true =>
   refine xx ?_;have hn:=(hmk k (by omega)).n;refine Zb.ap (Yfi (xs:=mkF g s.marks k) _ (k:Int) ik (by omega) (by omega) (by rw[hn,h16];omega) (by omega) fun h3 r le3 ir ap=>?_);have a32:h3 b2=noC:=ap.2.1;have a34:h3 b4=noC:=ap.1;clear ap;have hn2:(Zhz (mkF g s.marks k) k).length=s.marks.length:=by rw[Zhz,List.length_set];exact hn
   obtain⟨ra9,rc9,rfl,_⟩:=ir.open;rw[hn2]at ir ⊢;refine xx ?_;refine⟨k+1,h3,ra9,rc9,⟨by omega,le2.trans le3,?_,a32,a34⟩,by omega,by simp [Ent,List.lookup],Za.refl _ _⟩;rw[mkF,if_pos c2];exact ir
 ·obtain rfl:k=s.members.length:=by omega
  refine xx ?_;have i3:=is0.up le2;have hn:=(hmk s.members.length (by omega)).n;refine ZO (ZO (ZP ?_));have:=hk h2 ⟨.slice pa2 s.purses.length pc2,.slice ma2 s.members.length mc2,.slice ea2 s.entry.length ec2,.slice xa2 s.exit.length xc2,.slice oa2 s.pool.length oc2,.slice da2 s.dues.length dc2,.slice ta2 s.motions.length tc2,.slice ka3 s.marks.length kc3,.slice ra2 s.ring.length rc2⟩ (le1.trans le2)
   { ok:=⟨i3.ok.p,i3.ok.u,i3.ok.n⟩,p:=i3.p,m:=i3.m,mo:=i3.mo,e:=i3.e,x:=i3.x,o:=i3.o,oo:=i3.oo,d:=i3.d,dd:=i3.dd,t:=i3.t,k:=ik,r:=i3.r }
  exact this
theorem Zgj (hk:K (.tuple #[.int .i64 3,.int .i64 0]) L h):Zb prog 54 [.int .i64 4,.int .i64 2] L h K:=by
 refine ZR func54 rfl (rs:=[_,_]) rfl rfl ZW (by kernel_rfl) rfl rfl ?_;refine xx ?_;exact ZP hk
end Go.X

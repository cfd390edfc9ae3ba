/- Lemmas and contracts. Conditions: as each says. -/
import Derived.Test.YtllhopbilpdpkaaGreatQ34
set_option linter.unusedVariables false
set_option linter.unusedSimpArgs false
set_option maxHeartbeats 12800000
set_option maxRecDepth 20000
namespace Go.X
open Go.RowKit Go.Proofs Go.Bl
variable {L:Own} {h:PH} {K:PK}
structure Zt (h:PH)(q:RV)(r:Zi):Prop where
 o:Ints h .i64 q.o r.out
 l:Ints h .i64 q.l r.left
 s:Ints h .i64 q.s r.started
 d:Ints h .i64 q.d r.done
theorem Zot {o:Option (Nat×Nat)}{xs:List Value}:∀ {L:Own},Ap L h->(∀x∈L,apB o x.b)->Ap L (Jh h o xs)
 | [],_,_=>trivial
 | _::_,ap,hn=>⟨Vt (hn _ List.mem_cons_self) ap.1,Zot ap.2 fun x hx=>hn x (List.mem_cons_of_mem _ hx)⟩
theorem Zjt {b:Nat}:∀ {L:Own},ZS b L->∀x∈L,x.b≠b
 | [],_,_,hx=>zh
 | _::_,ha,x,hx=>by
  rcases List.mem_cons.1 hx with rfl|hx
  ·exact ha.1
  ·exact Zjt ha.2 x hx
theorem Yhg {e sz:Nat}{o:Option (Nat×Nat)}{xs:List Value}(nd:Nd (oent e sz o xs L)):∀x∈L,apB o x.b:=fun x hx=>by
 cases o with
 | none=>trivial
 | some p=>exact Ne.symm (Zjt nd.1 x hx)
theorem Zho {e sz:Nat}{o:Option (Nat×Nat)}{xs:List Value}(nd:Nd (oent e sz o xs L)):Nd L:=by
 cases o with
 | none=>exact nd
 | some p=>exact nd.2
theorem Jc {e sz n:Nat}{o:Option (Nat×Nat)}{xs:List Value}{a:Zn}(ok:okO o n)(hl:xs.length=n*sz)(hn:n<=9223372036854775807)(ap:Ap (a::oent e sz o xs L) h)(nd:Nd (a::oent e sz o xs L))(he:e≠4294967295:=by first|decide|omega) :
  ∃h',PH.le h h'/\Za (a::oent e sz o xs L) h (a::L) h'/\Sl h' (ovs o n) n sz xs/\Ap (a::L) h'/\Nd (a::L):=by
 have ap2:=Ap.perm oent_perm ap;have nd2:=Nd.perm oent_perm nd;have ao:apO o [] h:=Yk ap2;exact⟨Jh h o xs,YL ao xs,(Za.perm h oent_perm).trans (YG o xs _ h he),WE ok hl hn,Zot (Ap.oent ap2) (Yhg nd2),Zho nd2⟩
section
variable {e0 s0 e1 s1 e2 s2 e3 s3 e4 s4 e5 s5:Nat} {o0 o1 o2 o3 o4 o5:Option (Nat×Nat)} {X0 X1 X2 X3 X4 X5:List Value} {a:Zn}
theorem Yup:(a::oent e0 s0 o0 X0 (oent e1 s1 o1 X1 (oent e2 s2 o2 X2 L))).Perm (a::oent e2 s2 o2 X2 (oent e0 s0 o0 X0 (oent e1 s1 o1 X1 L))):=by
 refine List.Perm.cons _ ?_;exact(Z2 o0 X0 (Yq o1 o2 X1 X2 _)).trans (Yq o0 o2 X0 X2 _)
theorem Yhv:(a::oent e0 s0 o0 X0 L).Perm (a::oent e0 s0 o0 X0 (oent e1 s1 none X1 L)):=List.Perm.refl _
theorem Yst:(a::oent e0 s0 o0 X0 (oent e1 s1 o1 X1 (oent e2 s2 o2 X2 L))).Perm (a::oent e0 s0 o0 X0 (oent e2 s2 o2 X2 (oent e1 s1 o1 X1 L))) :=
 List.Perm.cons _ (Z2 o0 X0 (Yq o1 o2 X1 X2 _))
theorem Yrl:(a::oent e0 s0 o0 X0 (oent e1 s1 o1 X1 (oent e2 s2 o2 X2 (oent e3 s3 o3 X3 L)))).Perm (a::oent e0 s0 o0 X0 (oent e3 s3 o3 X3 (oent e4 s4 none X4 (oent e2 s2 o2 X2 (oent e1 s1 o1 X1 L))))):=by
 refine List.Perm.cons _ (Z2 o0 X0 ?_);show (oent e1 s1 o1 X1 (oent e2 s2 o2 X2 (oent e3 s3 o3 X3 L))).Perm (oent e3 s3 o3 X3 (oent e2 s2 o2 X2 (oent e1 s1 o1 X1 L)));refine(Yq o1 o2 X1 X2 _).trans ?_;refine(Z2 o2 X2 (Yq o1 o3 X1 X3 _)).trans ?_;exact Yq o2 o3 X2 X3 _
theorem permT3:(a::oent e0 s0 o0 X0 (oent e1 s1 o1 X1 (oent e2 s2 o2 X2 (oent e3 s3 o3 X3 (oent e4 s4 o4 X4 (oent e5 s5 o5 X5 L)))))).Perm (a::oent e0 s0 o0 X0 (oent e4 s4 o4 X4 (oent e5 s5 o5 X5 (oent e1 s1 o1 X1 (oent e2 s2 o2 X2 (oent e3 s3 o3 X3 L)))))):=by
 refine List.Perm.cons _ (Z2 o0 X0 ?_);have up:∀ {e s:Nat} {o:Option (Nat×Nat)} {X:List Value} {R:Own},(oent e1 s1 o1 X1 (oent e2 s2 o2 X2 (oent e3 s3 o3 X3 (oent e s o X R)))).Perm (oent e s o X (oent e1 s1 o1 X1 (oent e2 s2 o2 X2 (oent e3 s3 o3 X3 R)))):=fun {e s o X R} =>
  (Z2 o1 X1 ((Z2 o2 X2 (Yq o3 o X3 X _)).trans (Yq o2 o X2 X _))).trans (Yq o1 o X1 X _)
 exact up.trans (Z2 o4 X4 up)
end
section
variable {e0 s0 e1 s1 e2 s2 e3 s3 e4 s4 e5 s5:Nat} {o0 o1 o2 o3 o4 o5:Option (Nat×Nat)} {X0 X1 X2 X3 X4 X5:List Value} {a b c d:Zn}
theorem up3 {e s:Nat}{o:Option (Nat×Nat)}{X:List Value}{R:Own}:(b::c::d::oent e s o X R).Perm (oent e s o X (b::c::d::R)):=Z6 [b,c,d]
theorem Yil:(a::b::c::d::oent e0 s0 o0 X0 L).Perm (a::oent e0 s0 o0 X0 (b::c::d::L)):=List.Perm.cons _ up3
theorem permT5:(a::b::c::d::oent e0 s0 o0 X0 (oent e1 s1 o1 X1 (oent e2 s2 o2 X2 L))).Perm (a::oent e0 s0 o0 X0 (oent e1 s1 o1 X1 (oent e2 s2 o2 X2 (b::c::d::L)))) :=
 List.Perm.cons _ (up3.trans (Z2 o0 X0 (up3.trans (Z2 o1 X1 up3))))
theorem permT7:(b::c::d::oent e1 s1 o1 X1 (oent e2 s2 o2 X2 (oent e3 s3 o3 X3 (oent e4 s4 o4 X4 (oent e5 s5 o5 X5 L))))).Perm (oent e1 s1 o1 X1 (oent e2 s2 o2 X2 (oent e3 s3 o3 X3 (oent e4 s4 o4 X4 (oent e5 s5 o5 X5 (b::c::d::L)))))) :=
 up3.trans (Z2 o1 X1 (up3.trans (Z2 o2 X2 (up3.trans (Z2 o3 X3 (up3.trans (Z2 o4 X4 up3)))))))
theorem Zgj:(a::oent e0 s0 o0 X0 (b::c::d::oent e1 s1 o1 X1 (oent e2 s2 o2 X2 (oent e3 s3 o3 X3 (oent e4 s4 o4 X4 (oent e5 s5 o5 X5 L)))))).Perm (a::oent e0 s0 o0 X0 (oent e1 s1 o1 X1 (oent e2 s2 o2 X2 (oent e3 s3 o3 X3 (oent e4 s4 o4 X4 (oent e5 s5 o5 X5 (b::c::d::L))))))) :=
 List.Perm.cons _ (Z2 o0 X0 permT7)
theorem Yui:(a::oent e0 s0 o0 X0 (oent e1 s1 o1 X1 (oent e2 s2 o2 X2 (oent e3 s3 o3 X3 (oent e4 s4 o4 X4 (oent e5 s5 o5 X5 (b::c::d::L))))))).Perm (a::b::c::d::oent e0 s0 o0 X0 (oent e4 s4 o4 X4 (oent e5 s5 o5 X5 (oent e1 s1 o1 X1 (oent e2 s2 o2 X2 (oent e3 s3 o3 X3 L)))))) :=
 permT3.trans (List.Perm.cons _ ((Z2 o0 X0 permT7.symm).trans up3.symm))
end
theorem Ypg (q:Ze)(cs:List Zc):∀k,∀z∈ouN q cs k,0<=z/\z<k
 | 0,z,hz=>by cases hz
 | k+1,z,hz=>by
  rw[ouN]at hz;split at hz
  ·rcases List.mem_append.1 hz with hz|hz
   ·have:=Ypg q cs k z hz;omega
   ·rw[List.mem_singleton]at hz;omega
  ·have:=Ypg q cs k z hz;omega
theorem st_b {p:Ze}{t:Int}{n:Nat}(n0:0<n)(W:List Int){x:StX}(hW:∀z∈W,z<n)(h1:∀z∈x.out,0<=z/\z<n)(h2:∀z∈x.go,0<=z/\z<n):∀k,k<=W.length->(∀z∈(stK p t W x k).out,0<=z/\z<(n:Int))/\(∀z∈(stK p t W x k).go,0<=z/\z<(n:Int))/\(stK p t W x k).out.length<=x.out.length+k/\(stK p t W x k).go.length<=x.go.length+k
 | 0,_=>⟨h1,h2,Nat.le_refl _,Nat.le_refl _⟩
 | k+1,hk=>by
  obtain⟨i1,i2,i3,i4⟩:=st_b (p:=p) (t:=t) n0 W hW h1 h2 k qf;have hz:=hW (at0 W k) wR;have hz2:(((at0 W k).toNat:Nat):Int)<n:=qf;have new:∀l:List Int,(∀z∈l,0<=z/\z<(n:Int))->∀z∈l++[((at0 W k).toNat:Int)],0<=z/\z<(n:Int):=fun l hl z hz=>by
   rcases List.mem_append.1 hz with hz|hz
   ·exact hl z hz
   ·rw[List.mem_singleton]at hz;omega
  rw[stK,J0];split
  ·exact⟨i1,new _ i2,qp,qJ⟩
  ·exact⟨new _ i1,i2,qJ,qp⟩
theorem Yjg {W:List Int}{x:MoX}{n:Nat}(n0:0<n)(hW:∀z∈W,z<n)(h0:∀z∈x.dn,0<=z/\z<n):∀k,k<=W.length->∀z∈(moK W x k).dn,0<=z/\z<(n:Int)
 | 0,_=>h0
 | k+1,hk=>fun z hz=>by
  have ih:=Yjg n0 hW h0 k qf;have hw:=hW (at0 W k) wR;have e:(moK W x (k+1)).dn=if moB (gr Yb (moK W x k).mo (at0 W k).toNat) (moK W x k).tr then (moK W x k).dn++[((at0 W k).toNat:Int)] else (moK W x k).dn:=rfl
  rw[e]at hz;split at hz
  ·rcases List.mem_append.1 hz with hz|hz
   ·exact ih z hz
   ·rw[List.mem_singleton]at hz;omega
  ·exact ih z hz
theorem Zva {l:List Int}{v:Value}(sl:Sl h v l.length 1 (l.map (.int .i64)))(hl:∀z∈l,0<=z/\z<1000000):Ints h .i64 v l:=⟨sl,fun z hz=>by
 rw[show IntKind.i64.min = -9223372036854775808 from qh,show IntKind.i64.max=9223372036854775807 from qh];have:=hl z hz
 omega⟩
end Go.X

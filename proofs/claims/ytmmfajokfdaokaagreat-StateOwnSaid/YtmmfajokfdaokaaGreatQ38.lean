/- Lemmas and contracts for a statement about the given program. Conditions: as each says. -/
import Derived.Test.YtmmfajokfdaokaaGreatQ36
import Derived.Test.YtmmfajokfdaokaaGreatQ37
set_option linter.unusedVariables false
set_option linter.unusedSimpArgs false
set_option maxHeartbeats 12800000
set_option maxRecDepth 20000
namespace Go.X
open Go.RowKit Go.Proofs Go.Bl
variable {L:Own} {h:PH} {K:PK}
structure RepIs (h:PH) (q:RV) (r:RepD):Prop where
 o:Ints h .i64 q.o r.out
 l:Ints h .i64 q.l r.left
 s:Ints h .i64 q.s r.started
 d:Ints h .i64 q.d r.done
theorem ap_pubO {o:Option (Nat×Nat)} {xs:List Value}:∀ {L:Own},Ap L h→(∀ x∈L,apB o x.b)→Ap L (pubO h o xs)
 | [],_,_=>trivial
 | _::_,ap,hn=>⟨pubO_noC (hn _ List.mem_cons_self) ap.1,ap_pubO ap.2 fun x hx=>hn x (List.mem_cons_of_mem _ hx)⟩
theorem apart_mem {b:Nat}:∀ {L:Own},Apart b L→∀ x∈L,x.b≠b
 | [],_,_,hx=>by cases hx
 | _::_,ha,x,hx=>by
  rcases List.mem_cons.1 hx with rfl | hx
  ·exact ha.1
  ·exact apart_mem ha.2 x hx
theorem nd_apB {e sz:Nat} {o:Option (Nat×Nat)} {xs:List Value} (nd:Nd (oent e sz o xs L)):∀ x∈L,apB o x.b:=fun x hx=>by
 cases o with
 | none=>trivial
 | some p=>exact Ne.symm (apart_mem nd.1 x hx)
theorem nd_tail {e sz:Nat} {o:Option (Nat×Nat)} {xs:List Value} (nd:Nd (oent e sz o xs L)):Nd L:=by
 cases o with
 | none=>exact nd
 | some p=>exact nd.2
theorem pub_nx {e sz n:Nat} {o:Option (Nat×Nat)} {xs:List Value} {a:Blk} (ok:okO o n) (hl:xs.length=n*sz) (hn:n≤9223372036854775807) (ap:Ap (a::oent e sz o xs L) h) (nd:Nd (a::oent e sz o xs L)) (he:e≠4294967295:=by first | decide | omega) :
  ∃ h',PH.le h h'∧Drop (a::oent e sz o xs L) h (a::L) h'∧Sl h' (ovs o n) n sz xs∧Ap (a::L) h'∧Nd (a::L):=by
 have ap2:=Ap.perm oent_perm ap
 have nd2:=Nd.perm oent_perm nd
 have ao:apO o [] h:=ap_here ap2
 exact ⟨pubO h o xs,pub_le_o ao xs,(Drop.perm h oent_perm).trans (pub_drop_o o xs _ h he),pub_sl ok hl hn,ap_pubO (Ap.oent ap2) (nd_apB nd2),nd_tail nd2⟩
section
variable {e0 s0 e1 s1 e2 s2 e3 s3 e4 s4 e5 s5:Nat} {o0 o1 o2 o3 o4 o5:Option (Nat×Nat)} {X0 X1 X2 X3 X4 X5:List Value} {a:Blk}
theorem permT0:(a::oent e0 s0 o0 X0 (oent e1 s1 o1 X1 (oent e2 s2 o2 X2 L))).Perm (a::oent e2 s2 o2 X2 (oent e0 s0 o0 X0 (oent e1 s1 o1 X1 L))):=by
 refine List.Perm.cons _ ?_
 exact (oent_congr o0 X0 (oent_swap o1 o2 X1 X2 _)).trans (oent_swap o0 o2 X0 X2 _)
theorem permTn:(a::oent e0 s0 o0 X0 L).Perm (a::oent e0 s0 o0 X0 (oent e1 s1 none X1 L)):=List.Perm.refl _
theorem permT1:(a::oent e0 s0 o0 X0 (oent e1 s1 o1 X1 (oent e2 s2 o2 X2 L))).Perm (a::oent e0 s0 o0 X0 (oent e2 s2 o2 X2 (oent e1 s1 o1 X1 L))) :=
 List.Perm.cons _ (oent_congr o0 X0 (oent_swap o1 o2 X1 X2 _))
theorem permT2:(a::oent e0 s0 o0 X0 (oent e1 s1 o1 X1 (oent e2 s2 o2 X2 (oent e3 s3 o3 X3 L)))).Perm (a::oent e0 s0 o0 X0 (oent e3 s3 o3 X3 (oent e4 s4 none X4 (oent e2 s2 o2 X2 (oent e1 s1 o1 X1 L))))):=by
 refine List.Perm.cons _ (oent_congr o0 X0 ?_)
 show (oent e1 s1 o1 X1 (oent e2 s2 o2 X2 (oent e3 s3 o3 X3 L))).Perm (oent e3 s3 o3 X3 (oent e2 s2 o2 X2 (oent e1 s1 o1 X1 L)))
 refine (oent_swap o1 o2 X1 X2 _).trans ?_
 refine (oent_congr o2 X2 (oent_swap o1 o3 X1 X3 _)).trans ?_
 exact oent_swap o2 o3 X2 X3 _
theorem permT3:(a::oent e0 s0 o0 X0 (oent e1 s1 o1 X1 (oent e2 s2 o2 X2 (oent e3 s3 o3 X3 (oent e4 s4 o4 X4 (oent e5 s5 o5 X5 L)))))).Perm (a::oent e0 s0 o0 X0 (oent e4 s4 o4 X4 (oent e5 s5 o5 X5 (oent e1 s1 o1 X1 (oent e2 s2 o2 X2 (oent e3 s3 o3 X3 L)))))):=by
 refine List.Perm.cons _ (oent_congr o0 X0 ?_)
 have up:∀ {e s:Nat} {o:Option (Nat×Nat)} {X:List Value} {R:Own},(oent e1 s1 o1 X1 (oent e2 s2 o2 X2 (oent e3 s3 o3 X3 (oent e s o X R)))).Perm (oent e s o X (oent e1 s1 o1 X1 (oent e2 s2 o2 X2 (oent e3 s3 o3 X3 R)))):=fun {e s o X R} =>
  (oent_congr o1 X1 ((oent_congr o2 X2 (oent_swap o3 o X3 X _)).trans (oent_swap o2 o X2 X _))).trans (oent_swap o1 o X1 X _)
 exact up.trans (oent_congr o4 X4 up)
end
section
variable {e0 s0 e1 s1 e2 s2 e3 s3 e4 s4 e5 s5:Nat} {o0 o1 o2 o3 o4 o5:Option (Nat×Nat)} {X0 X1 X2 X3 X4 X5:List Value} {a b c d:Blk}
theorem up3 {e s:Nat} {o:Option (Nat×Nat)} {X:List Value} {R:Own}:(b::c::d::oent e s o X R).Perm (oent e s o X (b::c::d::R)):=oent_perm_app [b,c,d]
theorem permT6:(a::b::c::d::oent e0 s0 o0 X0 L).Perm (a::oent e0 s0 o0 X0 (b::c::d::L)):=List.Perm.cons _ up3
theorem permT5:(a::b::c::d::oent e0 s0 o0 X0 (oent e1 s1 o1 X1 (oent e2 s2 o2 X2 L))).Perm (a::oent e0 s0 o0 X0 (oent e1 s1 o1 X1 (oent e2 s2 o2 X2 (b::c::d::L)))) :=
 List.Perm.cons _ (up3.trans (oent_congr o0 X0 (up3.trans (oent_congr o1 X1 up3))))
theorem permT7:(b::c::d::oent e1 s1 o1 X1 (oent e2 s2 o2 X2 (oent e3 s3 o3 X3 (oent e4 s4 o4 X4 (oent e5 s5 o5 X5 L))))).Perm (oent e1 s1 o1 X1 (oent e2 s2 o2 X2 (oent e3 s3 o3 X3 (oent e4 s4 o4 X4 (oent e5 s5 o5 X5 (b::c::d::L)))))) :=
 up3.trans (oent_congr o1 X1 (up3.trans (oent_congr o2 X2 (up3.trans (oent_congr o3 X3 (up3.trans (oent_congr o4 X4 up3)))))))
theorem permT8:(a::oent e0 s0 o0 X0 (b::c::d::oent e1 s1 o1 X1 (oent e2 s2 o2 X2 (oent e3 s3 o3 X3 (oent e4 s4 o4 X4 (oent e5 s5 o5 X5 L)))))).Perm (a::oent e0 s0 o0 X0 (oent e1 s1 o1 X1 (oent e2 s2 o2 X2 (oent e3 s3 o3 X3 (oent e4 s4 o4 X4 (oent e5 s5 o5 X5 (b::c::d::L))))))) :=
 List.Perm.cons _ (oent_congr o0 X0 permT7)
theorem permT4:(a::oent e0 s0 o0 X0 (oent e1 s1 o1 X1 (oent e2 s2 o2 X2 (oent e3 s3 o3 X3 (oent e4 s4 o4 X4 (oent e5 s5 o5 X5 (b::c::d::L))))))).Perm (a::b::c::d::oent e0 s0 o0 X0 (oent e4 s4 o4 X4 (oent e5 s5 o5 X5 (oent e1 s1 o1 X1 (oent e2 s2 o2 X2 (oent e3 s3 o3 X3 L)))))) :=
 permT3.trans (List.Perm.cons _ ((oent_congr o0 X0 permT7.symm).trans up3.symm))
end
theorem ou_b (q:ParD) (cs:List MemD):∀ k,∀ z∈ouN q cs k,0≤z∧z<k
 | 0,z,hz=>by cases hz
 | k+1,z,hz=>by
  rw [ouN] at hz
  split at hz
  ·rcases List.mem_append.1 hz with hz | hz
   ·have:=ou_b q cs k z hz; omega
   ·rw [List.mem_singleton] at hz; omega
  ·have:=ou_b q cs k z hz; omega
theorem st_b {p:ParD} {t:Int} {n:Nat} (n0:0<n) (W:List Int) {x:StX} (hW:∀ z∈W,z<n) (h1:∀ z∈x.out,0≤z∧z<n) (h2:∀ z∈x.go,0≤z∧z<n):∀ k,k≤W.length→(∀ z∈(stK p t W x k).out,0≤z∧z<(n:Int))∧(∀ z∈(stK p t W x k).go,0≤z∧z<(n:Int))∧(stK p t W x k).out.length≤x.out.length+k∧(stK p t W x k).go.length≤x.go.length+k
 | 0,_=>⟨h1,h2,Nat.le_refl _,Nat.le_refl _⟩
 | k+1,hk=>by
  obtain ⟨i1,i2,i3,i4⟩:=st_b (p:=p) (t:=t) n0 W hW h1 h2 k (by omega)
  have hz:=hW (at0 W k) (by rw [← at0_lt (by omega)]; exact List.getElem_mem _)
  have hz2:(((at0 W k).toNat:Nat):Int)<n:=by omega
  have new:∀ l:List Int,(∀ z∈l,0≤z∧z<(n:Int))→∀ z∈l++[((at0 W k).toNat:Int)],0≤z∧z<(n:Int):=fun l hl z hz=>by
   rcases List.mem_append.1 hz with hz | hz
   ·exact hl z hz
   ·rw [List.mem_singleton] at hz; omega
  rw [stK,stStep]
  split
  ·exact ⟨i1,new _ i2,by simp only; omega,by simp only [List.length_append,List.length_singleton]; omega⟩
  ·exact ⟨new _ i1,i2,by simp only [List.length_append,List.length_singleton]; omega,by simp only; omega⟩
theorem mo_dn {W:List Int} {x:MoX} {n:Nat} (n0:0<n) (hW:∀ z∈W,z<n) (h0:∀ z∈x.dn,0≤z∧z<n):∀ k,k≤W.length→∀ z∈(moK W x k).dn,0≤z∧z<(n:Int)
 | 0,_=>h0
 | k+1,hk=>fun z hz=>by
  have ih:=mo_dn n0 hW h0 k (by omega)
  have hw:=hW (at0 W k) (by rw [← at0_lt (by omega)]; exact List.getElem_mem _)
  have e:(moK W x (k+1)).dn=if moB (gr zeroMot (moK W x k).mo (at0 W k).toNat) (moK W x k).tr then (moK W x k).dn++[((at0 W k).toNat:Int)] else (moK W x k).dn:=rfl
  rw [e] at hz
  split at hz
  ·rcases List.mem_append.1 hz with hz | hz
   ·exact ih z hz
   ·rw [List.mem_singleton] at hz; omega
  ·exact ih z hz
theorem nu64 {l:List Int} {v:Value} (sl:Sl h v l.length 1 (l.map (.int .i64))) (hl:∀ z∈l,0≤z∧z<1000000):Ints h .i64 v l:=⟨sl,fun z hz=>by
 rw [show IntKind.i64.min = -9223372036854775808 by decide,show IntKind.i64.max=9223372036854775807 by decide]
 have:=hl z hz
 omega⟩
open Go.RowKit Go.Proofs Go.Bl
variable {L:Own} {h:PH} {K:PK}
theorem oneO (o:Option (Nat×Nat)) (n:Nat):(ovs o n).oneCell'=true:=ovs_one o n
theorem neParB (p q:ParD) (x y:Operand) (K:Value→Prop) (t:Tok K):xBin Tryz.prog .neq 24 x y (parV p) (parV q) K t=K (.bool (!decide (p=q))):=by
 have e:decide (p=q)=decide (wides p++narrows p=wides q++narrows q):=by
  rw [decide_eq_decide]
  exact ⟨fun h=>by rw [h],par_ext⟩
 rw [e]
 exact xBin_neintsS (T:=24) (ks:=parK) (by kernel_rfl) (by kernel_rfl) (by kernel_rfl) (by kernel_rfl) (wides p++narrows p) (wides q++narrows q) rfl rfl x y K t
theorem TkI.mono {s:StD} {D D':Nat} (h:TkI s D) (hd:D≤D'):TkI s D' :=
 ⟨h.r,h.ok,h.ep,h.be,h.ml,h.pl,h.en,h.ex,h.dd,Nat.le_trans h.dn hd,h.oo,h.on,h.mm,h.mn,h.mon,h.top⟩
theorem lv_ml {s:StD} {t:Int}:(lvS s t).members.length=s.members.length:=by
 have:∀ (W:List Int) (x:List MemD×List DueD) k,(lvK t W x k).1.length=x.1.length:=fun W x k=>by
  induction k with
  | zero=>rfl
  | succ k ih=>rw [lvK,lvStep]; simp only [List.length_set]; exact ih
 exact this _ _ _
structure Fr (s S:StD):Prop where
 par:S.par=s.par
 ep:S.ep=s.ep
 k:S.marks=s.marks
 r:S.ring=s.ring
 t:S.motions=s.motions
 o:S.pool=s.pool
 e:S.entry=s.entry
 l:S.members.length=s.members.length
theorem Fr.next {s S S':StD} (h:Fr s S) (h2:Fr S S'):Fr s S':=⟨h2.par.trans h.par,h2.ep.trans h.ep,h2.k.trans h.k,h2.r.trans h.r,h2.t.trans h.t,h2.o.trans h.o,h2.e.trans h.e,h2.l.trans h.l⟩
theorem fr_wg (s:StD):Fr s (wgS s):=⟨rfl,rfl,rfl,rfl,rfl,rfl,rfl,upI_len _ _ _⟩
theorem fr_mt (s:StD) (r:RepD):Fr s (mtS s r):=⟨rfl,rfl,rfl,rfl,rfl,rfl,rfl,by
 have:∀ (p:ParD) (W:List Nat) (P:List Int) (x:List MemD×List Int) k,(mtK p W P x k).1.length=x.1.length:=fun p W P x k=>by
  induction k with
  | zero=>rfl
  | succ k ih=>rw [mtK,pyStep]; simp only [List.length_set]; exact ih
 exact this _ _ _ _ _⟩
theorem fr_fn (s:StD) (r:RepD):Fr s (fnS s r):=⟨rfl,rfl,rfl,rfl,rfl,rfl,rfl,upI_len _ _ _⟩
theorem fr_ej (s:StD) (t:Int):Fr s (ejS s t s.members.length):=⟨rfl,rfl,rfl,rfl,rfl,rfl,rfl,upN_len _ _ _⟩
theorem fr_lv (s:StD) (t:Int):Fr s (lvS s t):=⟨rfl,rfl,rfl,rfl,rfl,rfl,rfl,lv_ml⟩
theorem en_fr (s:StD) (r:RepD) (t:Int):(enS s r t).par=s.par∧(enS s r t).ep=s.ep∧(enS s r t).marks=s.marks∧(enS s r t).ring=s.ring∧(enS s r t).motions=s.motions:=by
 unfold enS
 split
 ·exact ⟨rfl,rfl,rfl,rfl,rfl⟩
 ·exact ⟨rfl,rfl,rfl,rfl,rfl⟩
theorem okO_le9 {o:Option (Nat×Nat)} {n:Nat} (ho:okO o n):n≤9223372036854775807:=by
 cases o with
 | none=>have:n=0:=ho; omega
 | some p=>have:=ho.2; have:=ho.1; simp only [maxLen] at *; omega
theorem tickW_any {s:StD} (v:SV) (hs:IsSt h v s) (few:OwnFew s) (fd:s.dues.length≤29000) (hf:fitsS s=true) (he:s.ep<1073741824) (hA1:actS s≤140737488355328) (hA8:actS (tk8 s).1≤18446744073709551615)
  (hk:∀ h' u q,PH.le h h'→IsSt h' u (tickS s)→RepIs h' q (tickR s)→K (.tuple #[stV (tickS s) u,rpV (tickR s) q,.int .i64 0]) L h') :
  Spec Tryz.prog 19 [stV s v] L h K:=by
 have hv0:=hs
 have ti:TkI s 29000:=ti_of hs hf he fd
 obtain ⟨pa,pc,ma,mc,ea,ec,xa,xc,oa,oc,da,dc,ta,tc,ka,kc,ra,rc,rfl⟩:=hs.slices
 have fewS:FewS s:=by
  have f1:=few.p
  have f2:=few.m
  have f3:=few.e
  have f4:=few.x
  have f5:=few.o
  have f6:=few.d
  have f7:=few.t
  have f8:=few.r
  constructor<;>omega
 have hpc:=parR_streak ti.r
 have hep:=ti.ep
 have hml:=ti.ml
 have hw:0≤s.par.wait∧s.par.wait≤1000:=by omega
 have ht:0≤min (s.ep+s.par.wait) 2147483647∧min (s.ep+s.par.wait) 2147483647≤2147483647:=by omega
 obtain ⟨t,hte⟩:∃ t,t=min (s.ep+s.par.wait) 2147483647:=⟨_,rfl⟩
 rw [← hte] at ht
 have hact:0≤actS s:=by have:=pre_le (ks:=s.marks) ti.be.m; show 0≤actL s.members; omega
 obtain ⟨S2,hS2⟩:∃ x,x=wgS s:=⟨_,rfl⟩
 obtain ⟨R2,hR2⟩:∃ x,x=wgR s (r0P s):=⟨_,rfl⟩
 have e2:tk2 s=(S2,R2):=by rw [hS2,hR2]; rfl
 have ti2:TkI S2 29000:=hS2 ▸ wg_ti ti
 have f2:Fr s S2:=hS2 ▸ fr_wg s
 have ra2:0≤R2.act∧R2.act≤18446744073709551615:=by rw [hR2]; show 0≤actS s∧actS s≤_; omega
 have rp2:R2.paid=0:=by rw [hR2]; rfl
 obtain ⟨S3,hS3⟩:∃ x,x=mtS S2 R2:=⟨_,rfl⟩
 obtain ⟨R3,hR3⟩:∃ x,x=mtR S2 R2:=⟨_,rfl⟩
 have e3:tk3 s=(S3,R3):=by rw [hS3,hR3]; show (mtS (tk2 s).1 (tk2 s).2,mtR (tk2 s).1 (tk2 s).2)=_; rw [e2]
 have ti3:TkI S3 29000:=hS3 ▸ mt_ti ti2 ra2
 have f3:Fr s S3:=f2.next (hS3 ▸ fr_mt S2 R2)
 have rb3:R3.burned=0:=by rw [hR3,hR2]; rfl
 have rf3:R3.fees=0:=by rw [hR3,hR2]; rfl
 obtain ⟨S4,hS4⟩:∃ x,x=fnS S3 R3:=⟨_,rfl⟩
 obtain ⟨R4,hR4⟩:∃ x,x=fnR S3 R3 S3.members.length:=⟨_,rfl⟩
 have e4:tk4 s=(S4,R4):=by rw [hS4,hR4]; show (fnS (tk3 s).1 (tk3 s).2,fnR (tk3 s).1 (tk3 s).2 (tk3 s).1.members.length)=_; rw [e3]
 have ti4:TkI S4 29000:=hS4 ▸ fn_ti ti3 rb3
 have f4:Fr s S4:=f3.next (hS4 ▸ fr_fn S3 R3)
 have p4:S4.purses=S3.purses:=by rw [hS4]; rfl
 have d4:S4.dues=s.dues:=by rw [hS4,hS3,hS2]; rfl
 have x4:S4.exit=s.exit:=by rw [hS4,hS3,hS2]; rfl
 have ro4:R4.out=[]∧R4.left=[]∧R4.started=[]∧R4.done=[]:=by rw [hR4,hR3,hR2]; exact ⟨rfl,rfl,rfl,rfl⟩
 obtain ⟨S5,hS5⟩:∃ x,x=ejS S4 t S4.members.length:=⟨_,rfl⟩
 obtain ⟨R5,hR5⟩:∃ x,x=ejR S4 R4 S4.members.length:=⟨_,rfl⟩
 have e5:tk5 s=(S5,R5):=by rw [hS5,hR5]; show ejP2 (atP s) (tk4 s)=_; rw [e4,show atP s=t from hte.symm]; rfl
 have f5:Fr s S5:=f4.next (hS5 ▸ fr_ej S4 t)
 have ti5:TkI S5 29128:=by have:=ejk_ti ti4 ht (Nat.le_refl S4.members.length); rw [hS5]; exact this.mono (by have:=f4.l; omega)
 have p5:S5.purses=S4.purses:=by rw [hS5]; rfl
 have ro5:R5.left=[]∧R5.started=[]∧R5.done=[]∧R5.out=ouN S4.par S4.members S4.members.length:=by
  rw [hR5]
  refine ⟨ro4.2.1,ro4.2.2.1,ro4.2.2.2,?_⟩
  show R4.out++_=_
  rw [ro4.1]; rfl
 have ol5:R5.out.length≤128:=by rw [ro5.2.2.2]; have:=ouN_len S4.par S4.members S4.members.length; have:=f4.l; omega
 have ob5:∀ z∈R5.out,0≤z∧z<((128:Nat):Int):=by rw [ro5.2.2.2]; intro z hz; have:=ou_b S4.par S4.members S4.members.length z hz; have:=f4.l; omega
 obtain ⟨S7,hS7⟩:∃ x,x=lvS S5 t:=⟨_,rfl⟩
 obtain ⟨R7,hR7⟩:∃ x,x=lvR S5 R5:=⟨_,rfl⟩
 have e7:tk7 s=(S7,R7):=by rw [hS7,hR7]; show (lvS (tk5 s).1 (atP s),lvR (tk5 s).1 (tk5 s).2)=_; rw [e5,show atP s=t from hte.symm]
 have ti7:TkI S7 29192:=hS7 ▸ lv_ti ti5 ht
 have f7:Fr s S7:=f5.next (hS7 ▸ fr_lv S5 t)
 have ro7:R7.out=R5.out∧R7.left=lvW S5∧R7.started=[]∧R7.done=[]:=by rw [hR7]; exact ⟨rfl,rfl,ro5.2.1,ro5.2.2.1⟩
 obtain ⟨S8,hS8⟩:∃ x,x=enS S7 R7 t:=⟨_,rfl⟩
 obtain ⟨R8,hR8⟩:∃ x,x=enR S7 R7 t:=⟨_,rfl⟩
 have e8:tk8 s=(S8,R8):=by rw [hS8,hR8]; show (enS (tk7 s).1 (tk7 s).2 (atP s),enR (tk7 s).1 (tk7 s).2 (atP s))=_; rw [e7,show atP s=t from hte.symm]
 have ti8:TkI S8 29256:=hS8 ▸ en_ti ti7 R7 ht
 obtain ⟨a8,b8,c8,d8,g8⟩:=en_fr S7 R7 t
 rw [← hS8] at a8 b8 c8 d8 g8
 have ro8:R8.left=lvW S5∧R8.done=[]∧(∀ z∈R8.out,0≤z∧z<((128:Nat):Int))∧(∀ z∈R8.started,0≤z∧z<((128:Nat):Int))∧R8.out.length≤300∧R8.started.length≤300:=by
  rw [hR8]
  unfold enR
  split
  ·have hx:=(en_x ti7).1
   have hwl:=(en_w ti7).1
   obtain ⟨u1,u2,u3,u4⟩:=st_b (p:=S7.par) (t:=t) (n:=128) (by decide) (enW S7) (x:=⟨(enX S7).ms,S7.dues,S7.exit,R7.out,R7.started⟩) (fun z hz=>by
    have h1:=row_in hx.e (List.mem_of_mem_take hz)
    have h2:(enX S7).ms.length≤128:=hx.l1
    omega) (by rw [ro7.1]; exact ob5) (fun z hz=>by rw [ro7.2.2.1] at hz; cases hz) (enW S7).length (Nat.le_refl _)
   simp only [ro7.1,ro7.2.2.1,List.length_nil] at u3 u4
   refine ⟨ro7.2.1,ro7.2.2.2,u1,u2,?_,?_⟩
   ·show (enY S7 R7 t).out.length≤300
    have:(enY S7 R7 t).out.length≤R5.out.length+(enW S7).length:=by rw [enY,ro7.1,ro7.2.2.1]; exact u3
    omega
   ·show (enY S7 R7 t).go.length≤300
    have:(enY S7 R7 t).go.length≤0+(enW S7).length:=by rw [enY,ro7.1,ro7.2.2.1]; exact u4
    omega
  ·exact ⟨ro7.2.1,ro7.2.2.2,by rw [ro7.1]; exact ob5,(fun z hz=>by rw [ro7.2.2.1] at hz; cases hz),by rw [ro7.1]; omega,by rw [ro7.2.2.1]; simp⟩
 obtain ⟨S9,hS9⟩:∃ x,x=moS S8 R8:=⟨_,rfl⟩
 obtain ⟨R9,hR9⟩:∃ x,x=moR S8 R8:=⟨_,rfl⟩
 have e9:tk9 s=(S9,R9):=by rw [hS9,hR9]; show (moS (tk8 s).1 (tk8 s).2,moR (tk8 s).1 (tk8 s).2)=_; rw [e8]
 have ti9:TkI S9 29256:=hS9 ▸ mok_ti ti8 R8 (Nat.le_refl _)
 rw [e8] at hA8
 simp only at hA8
 refine x_enterA Tryz.func19 rfl (rs:=[_,_,_]) rfl rfl mixed (by kernel_rfl) rfl rfl fun ap nd=>?_
 clear ap nd
 refine xx ?_
 refine xnew fun b1 n_b1 h_b1=>?_
 try simp only [Apart] at n_b1
 refine xx ?_
 refine xnew fun b2 n_b2 h_b2=>?_
 try simp only [Apart] at n_b2
 have n21:=n_b2.1
 refine xx ?_
 refine xnew fun b3 n_b3 h_b3=>?_
 try simp only [Apart] at n_b3
 have n32:=n_b3.1
 have n31:=n_b3.2.1
 clear n_b1 n_b2 n_b3
 refine xx ?_
 refine fits_any (s:=s) ⟨.slice pa s.purses.length pc,.slice ma s.members.length mc,.slice ea s.entry.length ec,.slice xa s.exit.length xc,.slice oa s.pool.length oc,.slice da s.dues.length dc,.slice ta s.motions.length tc,.slice ka s.marks.length kc,.slice ra s.ring.length rc⟩ hs fewS ?_
 rw [hf]
 refine xx ?_
 refine xanyl (.tk 2 (.tk 5 (.tk 6 (.tkl 0 (.tkl 3 (.tk 4 (.tkl 7 (.or true 1 (.tk 8 (.or true 9 (.tk 10 (.fin)) (.nil))) (.nil))))))))) (by kernel_rfl) (by kernel_rfl) _ (Drop.refl _ _) ?_
 refine xx ?_
 refine own24e_any (s:=s) ⟨.slice pa s.purses.length pc,.slice ma s.members.length mc,.slice ea s.entry.length ec,.slice xa s.exit.length xc,.slice oa s.pool.length oc,.slice da s.dues.length dc,.slice ta s.motions.length tc,.slice ka s.marks.length kc,.slice ra s.ring.length rc⟩ hs few fun h1 u om oe ox le1 okm oke okx i1=>?_
 first
 | refine xkp ((Drop.oent _ _ _ _ _ _).trans ((Drop.oent _ _ _ _ _ _).trans ((Drop.oent _ _ _ _ _ _).trans (Drop.forget le1)))) ?_
 | skip
 refine xx ?_
 refine xnew fun b5 n_b5 h_b5=>?_
 try simp only [Apart] at n_b5
 have n5:=apart_oent (apart_oent (apart_oent n_b5))
 simp only [Apart] at n5
 have n53:=n5.1
 have n52:=n5.2.1
 have n51:=n5.2.2.1
 clear n_b5 n5
 obtain ⟨up,um,ue,ux,uo,ud,ut,uk,ur⟩:=u
 obtain ⟨iok,ip,_,_,_,_,io,ioo,idd,iddo,it,ik,ir⟩:=i1
 simp only [noMEX] at ip io ioo idd iddo it ik ir
 obtain ⟨upa,upc,rfl,_⟩:=ip.open
 obtain ⟨uoa,uoc,rfl,_⟩:=io.open
 obtain ⟨uda,udc,rfl,_⟩:=idd.open
 obtain ⟨uka,ukc,rfl,_⟩:=ik.open
 obtain ⟨uq,it1,it2,it3⟩:=it
 obtain ⟨uta,utc,rfl,_⟩:=it1.open
 obtain ⟨uqr,ir1,ir2⟩:=ir
 obtain ⟨ura,urc,rfl,_⟩:=ir1.open
 have hqm:uq.length=s.motions.length:=by rw [← it2,List.length_map]
 have hqr:uqr.length=s.ring.length:=by rw [← ir2,xsL_len]
 rw [hqm] at it1 ⊢
 rw [hqr] at ir1 ⊢
 refine xx ?_
 refine xkp ((Drop.tail _ _ _).trans ((Drop.oent _ _ _ _ _ _).trans ((Drop.oent _ _ _ _ _ _).trans ((Drop.oent _ _ _ _ _ _).trans (Drop.forget le1))))) ?_
 refine xx ?_
 obtain ⟨N,hN⟩:∃ N,N=s.members.length:=⟨_,rfl⟩
 obtain ⟨V0,hV0⟩:∃ V0:SV,V0=⟨.slice upa s.purses.length upc,ovs om s.members.length,ovs oe s.entry.length,ovs ox s.exit.length,.slice uoa s.pool.length uoc,.slice uda s.dues.length udc,.slice uta s.motions.length utc,.slice uka s.marks.length ukc,.slice ura s.ring.length urc⟩:=⟨_,rfl⟩
 refine Spec.fin (Spec.weaken (Drop.perm _ permT0) (tweigh_any (s:=s) (v:=⟨.slice upa s.purses.length upc,ovs om s.members.length,ovs oe s.entry.length,ovs ox s.exit.length,.slice uoa s.pool.length uoc,.slice uda s.dues.length udc,.slice uta s.motions.length utc,.slice uka s.marks.length ukc,.slice ura s.ring.length urc⟩) (r:=r0P s) (q:=⟨.slice none 0 0,.slice none 0 0,.slice none 0 0,.slice none 0 0⟩) (w:=s.par.wait) (om:=om) ti hA1 ik rfl okm fun h2 le2=>fin_here ?_))
 rw [← hS2,← hR2]
 refine xx ?_
 have one:∀ (a b c d e:Value),a.oneCell'=true→b.oneCell'=true→c.oneCell'=true→d.oneCell'=true→e.oneCell'=true→∀ (n1 n2 n3:Nat) (f:Value),f.oneCell'=true→OneS ⟨a,ovs om n1,ovs oe n2,ovs ox n3,b,c,d,e,f⟩:=fun a b c d e ha hb hc hd he n1 n2 n3 f hf=>⟨ha,oneO _ _,oneO _ _,oneO _ _,hb,hc,hd,he,hf⟩
 have p2:S2.purses=s.purses:=by rw [hS2]; rfl
 refine tmint_any (s:=S2) (v:=⟨.slice upa s.purses.length upc,ovs om s.members.length,ovs oe s.entry.length,ovs ox s.exit.length,.slice uoa s.pool.length uoc,.slice uda s.dues.length udc,.slice uta s.motions.length utc,.slice uka s.marks.length ukc,.slice ura s.ring.length urc⟩) (om:=om) ti2 ra2 rp2 (one _ _ _ _ _ rfl rfl rfl rfl rfl _ _ _ _ rfl) (by rw [p2]; exact ip.up le2) (by rw [f2.k]; exact ik.up le2) (by rw [f2.l]) (by rw [f2.l]; exact okm) fun h3 pv3 le3 i3=>?_
 rw [← hS3] at i3
 rw [← hS3,← hR3]
 obtain ⟨pa3,pc3,rfl,_⟩:=i3.open
 have le13:=le2.trans le3
 refine xx ?_
 refine tfines_any (s:=S3) (v:=⟨.slice pa3 S3.purses.length pc3,ovs om s.members.length,ovs oe s.entry.length,ovs ox s.exit.length,.slice uoa s.pool.length uoc,.slice uda s.dues.length udc,.slice uta s.motions.length utc,.slice uka s.marks.length ukc,.slice ura s.ring.length urc⟩) (om:=om) ti3 rb3 rf3 (one _ _ _ _ _ rfl rfl rfl rfl rfl _ _ _ _ rfl) (by rw [f3.k]; exact ik.up le13) (by rw [f3.l]) (by rw [f3.l]; exact okm) ?_
 rw [← hS4,← hR4,← x4]
 refine xx ?_
 refine Spec.fin (Spec.weaken (Drop.perm _ permTn) (teject_any (s:=S4) (v:=⟨.slice pa3 S3.purses.length pc3,ovs om s.members.length,ovs oe s.entry.length,ovs ox S4.exit.length,.slice uoa s.pool.length uoc,.slice uda s.dues.length udc,.slice uta s.motions.length utc,.slice uka s.marks.length ukc,.slice ura s.ring.length urc⟩) (om:=om) (oo:=none) (ox:=ox) ti4 (by decide) (by rw [d4]; exact idd.up le13) (by rw [f4.l]) (by rw [f4.l]; exact okm) hw rfl (by rw [x4]; exact okx) rfl (by rw [ro4.1]; rfl) (by rw [ro4.1]; simp) fun h5 dv5 oo5 le5 i5 ok5=>fin_here ?_))
 rw [f4.ep,← hte,← hS5] at i5
 rw [← hR5] at ok5
 rw [f4.ep,← hte,← hS5,← hR5]
 obtain ⟨da5,dc5,rfl,_⟩:=i5.open
 have le15:=le13.trans le5
 have okx5:okO ox S5.exit.length:=okO_le okx (by rw [hS5,← x4]; exact exN_len _ _ _ _)
 refine xx ?_
 refine Spec.fin (Spec.weaken (Drop.perm _ permT1) (tleave_any (s:=S5) (v:=⟨.slice pa3 S3.purses.length pc3,ovs om s.members.length,ovs oe s.entry.length,ovs ox S5.exit.length,.slice uoa s.pool.length uoc,.slice da5 S5.dues.length dc5,.slice uta s.motions.length utc,.slice uka s.marks.length ukc,.slice ura s.ring.length urc⟩) (om:=om) (ox:=ox) ti5 (by decide) hw (by rw [p5,p4]; exact i3.up le5) i5 (by rw [f5.l]) (by rw [f5.l]; exact okm) rfl okx5 fun h7 xo pv7 dv7 lv7 le7 okx7 i7p i7d i7l=>fin_here ?_))
 rw [f5.ep,← hte,← hS7] at okx7 i7p i7d
 rw [f5.ep,← hte,← hS7,← hR7]
 obtain ⟨pa7,pc7,rfl,_⟩:=i7p.open
 obtain ⟨da7,dc7,rfl,_⟩:=i7d.open
 obtain ⟨la7,lc7,rfl,_⟩:=i7l.open
 have le17:=le15.trans le7
 refine xx ?_
 rw [← f7.e,← ro7.1]
 refine Spec.fin (Spec.weaken (Drop.perm _ permT2) (tenter_any (s:=S7) (v:=⟨.slice pa7 S7.purses.length pc7,ovs om s.members.length,ovs oe S7.entry.length,ovs xo S7.exit.length,.slice uoa s.pool.length uoc,.slice da7 S7.dues.length dc7,.slice uta s.motions.length utc,.slice uka s.marks.length ukc,.slice ura s.ring.length urc⟩) (om:=om) (oe:=oe) (os:=none) (oo:=oo5) (ox:=xo) (r:=R7) ti7 (by decide) hw (by rw [ro7.1]; omega) (by rw [ro7.2.2.1]; simp) i7p i7d (by rw [f7.o]; exact io.up le17) (by rw [f7.l]) (by rw [f7.l]; exact okm) rfl (by rw [f7.e]; exact oke) rfl okx7 rfl (by rw [ro7.1]; exact ok5) rfl (by rw [ro7.2.2.1]; rfl) fun h8 pv8 dv8 ov8 om8 oe8 os8 oo8 le8 i8p i8d i8o okm8 oke8 oks8 oko8 okx8=>fin_here ?_))
 rw [f7.ep,← hte,← hS8] at i8p i8d i8o okm8 oke8 okx8
 rw [f7.ep,← hte,← hR8] at oks8 oko8
 rw [f7.ep,← hte,← hS8,← hR8]
 obtain ⟨pa8,pc8,rfl,_⟩:=i8p.open
 obtain ⟨da8,dc8,rfl,_⟩:=i8d.open
 obtain ⟨oa8,oc8,rfl,_⟩:=i8o.open
 have le18:=le17.trans le8
 refine xx ?_
 refine Spec.fin (Spec.weaken (Drop.perm _ permTn) (Spec.apn (tmoots_any (s:=S8) (v:=⟨.slice pa8 S8.purses.length pc8,ovs om8 S8.members.length,ovs oe8 S8.entry.length,ovs xo S8.exit.length,.slice oa8 S8.pool.length oc8,.slice da8 S8.dues.length dc8,.slice uta s.motions.length utc,.slice uka s.marks.length ukc,.slice ura s.ring.length urc⟩) (om:=om8) (od:=none) (r:=R8) ti8 hA8 (by rw [ro8.2.1]; simp) i8p ⟨uq,it1.up le18,it2.trans (g8.trans f7.t).symm,fun x hx=>(it3 x hx).up le18⟩ rfl okm8 rfl (by rw [ro8.2.1]; rfl) fun h9 pv9 tv9 od9 le9 i9p i9t okd9 ap nd=>⟨_,_,Drop.perm _ permT4,?_⟩)))
 have hb5:h9 b5=noC:=ap.1
 obtain ⟨hb3,hb2,hb1,_⟩:=Ap.oent (Ap.oent (Ap.oent (Ap.oent (Ap.oent (Ap.oent ap.2)))))
 simp only at hb3 hb2 hb1
 clear ap nd
 rw [← hS9] at i9p i9t
 rw [← hR9] at okd9
 rw [← hS9,← hR9]
 have m9:S9.members=S8.members:=by rw [hS9]; rfl
 have en9:S9.entry=S8.entry:=by rw [hS9]; rfl
 have x9:S9.exit=S8.exit:=by rw [hS9]; rfl
 have d9:S9.dues=S8.dues:=by rw [hS9]; rfl
 have o9:S9.pool=S8.pool:=by rw [hS9]; rfl
 have k9:S9.marks=s.marks:=by rw [hS9]; exact c8.trans f7.k
 have r9:S9.ring=s.ring:=by rw [hS9]; exact d8.trans f7.r
 have ep9:S9.ep=s.ep:=by rw [hS9]; exact b8.trans f7.ep
 have ro9:R9.out=R8.out∧R9.left=R8.left∧R9.started=R8.started:=by rw [hR9]; exact ⟨rfl,rfl,rfl⟩
 have dn9:(∀ z∈R9.done,0≤z∧z<((128:Nat):Int)):=by
  rw [hR9]
  have hmn:=ti8.mn
  have hL:(moL S8).length=S8.motions.length:=List.length_map _
  exact mo_dn (by decide) (fun z hz=>by have:=(moW_in (s:=S8) R8).2 z hz; omega) (fun z hz=>by rw [ro8.2.1] at hz; cases hz) _ (Nat.le_refl _)
 rw [← m9] at okm8
 rw [← en9] at oke8
 rw [← x9] at okx8
 rw [← ro9.1] at oko8
 rw [← ro9.2.2] at oks8
 rw [← m9,← en9,← x9,← ro9.1,← ro9.2.2]
 obtain ⟨pa9,pc9,rfl,_⟩:=i9p.open
 obtain ⟨q9,i9t1,i9t2,i9t3⟩:=i9t
 obtain ⟨ta9,tc9,rfl,_⟩:=i9t1.open
 have le19:=le18.trans le9
 have i8d9:Recs dueC 3 h9 (.slice da8 S8.dues.length dc8) S9.dues:=by rw [d9]; exact i8d.up le9
 have i8o9:Recs depC 4 h9 (.slice oa8 S8.pool.length oc8) S9.pool:=by rw [o9]; exact i8o.up le9
 refine xx ?_
 refine xanyl (.tk 0 (.tk 1 (.tk 2 (.tk 3 (.tk 5 (.tkl 4 (.tkl 6 (.tk 7 (.fin))))))))) (by kernel_rfl) (by kernel_rfl) _ (Drop.refl _ _) ?_
 simp -dsimp -implicitDefEqProofs (disch:=first|with_reducible assumption|omega) [go_sem,neParB]
 refine xif_dec (fun c=>?_) (fun c=>?_)
 ·have e10:tk10 s=(S9,R9):=by rw [tk10,e9,if_pos c]
  have eT:tickS s=seS S9:=by rw [tickS,e10]
  have eR:tickR s=R9:=by rw [tickR,e10]
  have tiE:TkI S9 29400:=ti9.mono (by decide)
  have iP:=i9p
  have iD:=i8d9
  have kE:=k9
  have rE:=r9
  have mE:S9.motions=S9.motions:=rfl
  have oE:S9.pool=S9.pool:=rfl
  have nE:S9.entry=S9.entry:=rfl
  have okmE:=okm8
  have okxE:=okx8
  have okoE:=oko8
  have obE:∀ z∈R9.out,0≤z∧z<((128:Nat):Int):=by rw [ro9.1]; exact ro8.2.2.1
  have olE:R9.out.length≤1000:=by rw [ro9.1]; omega
  have leE:=le19
  have leE9:=PH.le_refl h9
  have lE:R9.left=lvW S5∧R9.started=R9.started∧R9.done=R9.done:=⟨ro9.2.1.trans ro8.1,rfl,rfl⟩
  refine xx ?_
  have ml10:S9.members.length≤128:=tiE.ml
  have lenS:(seS S9).members.length=S9.members.length:=upN_len _ _ _
  refine Spec.fin (Spec.weaken (Drop.perm _ permT6) (Spec.apn (tsettle_any (s:=S9) (v:=⟨.slice pa9 S9.purses.length pc9,ovs om8 S9.members.length,ovs oe8 S9.entry.length,ovs xo S9.exit.length,.slice oa8 S8.pool.length oc8,.slice da8 S8.dues.length dc8,.slice ta9 q9.length tc9,.slice uka s.marks.length ukc,.slice ura s.ring.length urc⟩) (om:=om8) (r:=R9) (q:=⟨ovs oo8 R9.out.length,.slice la7 (lvW S5).length lc7,ovs os8 R9.started.length,ovs od9 R9.done.length⟩) tiE (by rw [kE]; exact ik.up leE) ⟨uqr,ir1.up leE,ir2.trans rE.symm⟩ (by rw [rE]; exact few.r) (by rw [rE]; exact few.b) (by rw [kE]; exact few.k) rfl okmE fun hz kvz rvz lez iz1 iz2 ap nd=>?_)))
  obtain ⟨kza,kzc,rfl,_⟩:=iz1.open
  obtain ⟨qz,z1,z2⟩:=iz2
  obtain ⟨rza,rzc,rfl,_⟩:=z1.open
  have ap:=Ap.perm permT8 ap
  have nd:=Nd.perm permT8 nd
  have eln:=row_len tiE.en
  have elx:=row_len tiE.ex
  obtain ⟨g1,l1,dr1,sl1,ap,nd⟩:=pub_nx (n:=(seS S9).members.length) (by rw [lenS]; exact okmE) (flatG_len memC_len _) (by omega) ap nd
  obtain ⟨g2,l2,dr2,sl2,ap,nd⟩:=pub_nx (n:=R9.out.length) (sz:=1) okoE (by simp) (by omega) ap nd
  obtain ⟨g3,l3,dr3,sl3,ap,nd⟩:=pub_nx (n:=S9.exit.length) (sz:=1) okxE (by simp) (by omega) ap nd
  obtain ⟨g4,l4,dr4,sl4,ap,nd⟩:=pub_nx (n:=R9.done.length) (sz:=1) okd9 (by simp) (okO_le9 okd9) ap nd
  obtain ⟨g5,l5,dr5,sl5,ap,nd⟩:=pub_nx (n:=S9.entry.length) (sz:=1) oke8 (by simp) (okO_le9 oke8) ap nd
  obtain ⟨g6,l6,dr6,sl6,ap,nd⟩:=pub_nx (n:=R9.started.length) (sz:=1) oks8 (by simp) (okO_le9 oks8) ap nd
  refine ⟨_,_,(Drop.perm _ permT8).trans (dr1.trans (dr2.trans (dr3.trans (dr4.trans (dr5.trans dr6))))),?_⟩
  obtain ⟨hc5,hc3,hc2,hc1,_⟩:=ap
  simp only at hc5 hc3 hc2 hc1
  clear nd dr1 dr2 dr3 dr4 dr5 dr6
  have m56:=l5.trans l6
  have m46:=l4.trans m56
  have m36:=l3.trans m46
  have m26:=l2.trans m36
  have mz6:=lez.trans (l1.trans m26)
  have hIS:IsSt g6 ⟨.slice pa9 S9.purses.length pc9,ovs om8 S9.members.length,ovs oe8 S9.entry.length,ovs xo S9.exit.length,.slice oa8 S8.pool.length oc8,.slice da8 S8.dues.length dc8,.slice ta9 q9.length tc9,.slice kza (List.replicate 16 (0:Int)).length kzc,.slice rza qz.length rzc⟩ (tickS s):=by
   rw [eT]
   have hn:=tiE.ok.n
   have hp1:=tiE.ep
   simp only [List.forall_mem_cons] at hn
   refine ⟨⟨tiE.ok.p,tiE.ok.u,?_⟩,iP.up mz6,?_,?_,?_,?_,?_,fun x hx=>(tiE.oo x hx).1,iD.up mz6,fun x hx=>(tiE.dd x hx).1,⟨q9,i9t1.up (leE9.trans mz6),i9t2.trans mE.symm,fun x hx=>(i9t3 x hx).up (leE9.trans mz6)⟩,iz1.up (l1.trans m26),?_⟩
   ·show ∀ z∈[S9.ep+1,S9.calm],_
    simp only [List.forall_mem_cons]
    exact ⟨by omega,hn.2⟩
   ·have:=Recs.pub (f:=memC) (w:=6) (l:=(seS S9).members) (o:=om8) memC_len (sl1.up m26)
    rw [lenS] at this
    exact this
   ·exact upN_ok MemOk (fun m hm=>setF_ok tiE.ok.p tiE.r hm) tiE.be.m _ (Nat.le_refl _)
   ·exact row_ints (st:=1) (by show RowP S9.members S9.entry 1; exact tiE.en) ml10 (by show Sl _ _ S9.entry.length 1 (S9.entry.map _); rw [nE]; exact sl5.up l6)
   ·exact row_ints (st:=3) (by show RowP S9.members S9.exit 3; exact tiE.ex) ml10 (sl3.up m46)
   ·show Recs depC 4 g6 _ S9.pool
    rw [oE]
    exact i8o9.up (leE9.trans mz6)
   ·exact ⟨qz,z1.up (l1.trans m26),z2⟩
  have hRP:RepIs g6 ⟨ovs oo8 R9.out.length,.slice la7 (lvW S5).length lc7,ovs os8 R9.started.length,ovs od9 R9.done.length⟩ (tickR s):=by
   rw [eR]
   refine ⟨nu64 (sl2.up m36) fun z hz=>by have:=obE z hz; omega,by rw [lE.1]; exact i7l.up ((le8.trans (le9.trans leE9)).trans mz6),?_,?_⟩
   ·rw [lE.2.1]
    exact nu64 sl6 fun z hz=>by have:=ro8.2.2.2.1 z (by rw [← ro9.2.2]; exact hz); omega
   ·rw [lE.2.2]
    exact nu64 (sl4.up m56) fun z hz=>by have:=dn9 z hz; omega
  have hk:=hk g6 _ _ (le1.trans (leE.trans mz6)) hIS hRP
  rw [eT,eR] at hk
  refine xx ?_
  refine xanyl (.tk 0 (.tk 1 (.tk 2 (.tk 4 (.tk 5 (.tk 6 (.tkl 3 (.or true 7 (.or false 8 (.or false 9 (.tk 10 (.fin)) (.nil)) (.nil)) (.or false 8 (.or true 7 (.or false 9 (.tk 10 (.fin)) (.nil)) (.nil)) (.nil)))))))))) (by kernel_rfl) (by kernel_rfl) _ (Drop.refl _ _) ?_
  repeat' first
   | with_reducible refine xpl_or ?_ ?_
   | simp -dsimp -implicitDefEqProofs (disch:=first|with_reducible assumption|omega) [go_sem]
   | fail
  all_goals exact fin_tail (fin_tail (fin_tail (fin_tail (fin_here hk))))
 ·have e10:tk10 s=ejP2 t (ajS S9,R9):=by rw [tk10,e9,if_neg c,show atP s=t from hte.symm]
  refine xx ?_
  refine Spec.fin (Spec.weaken (Drop.perm _ permT5) (tadjust_any (s:=S9) (v:=⟨.slice pa9 S9.purses.length pc9,ovs om8 S9.members.length,ovs oe8 S9.entry.length,ovs xo S9.exit.length,.slice oa8 S8.pool.length oc8,.slice da8 S8.dues.length dc8,.slice ta9 q9.length tc9,.slice uka s.marks.length ukc,.slice ura s.ring.length urc⟩) (om:=om8) (oo:=oo8) (ox:=xo) (r:=R9) (q:=⟨ovs oo8 R9.out.length,.slice la7 (lvW S5).length lc7,ovs os8 R9.started.length,ovs od9 R9.done.length⟩) ti9 (by decide) i9p i8d9 rfl okm8 hw rfl okx8 rfl oko8 (by rw [ro9.1]; omega) fun h10 pv10 d10 oo10 le10 i10p i10d ok10=>⟨_,_,Drop.perm _ permT5.symm,?_⟩))
  rw [ep9,← hte] at i10d ⊢
  have tiE:TkI (ejS (ajS S9) t (ajS S9).members.length) 29400:=by
   have h1:TkI (ajS S9) 29256:=ajk_ti ti9 (Nat.le_refl _)
   exact (ejk_ti h1 ht (Nat.le_refl _)).mono (by have:=h1.ml; omega)
  have l10:(ejS (ajS S9) t (ajS S9).members.length).members.length=S9.members.length:=(fr_ej (ajS S9) t).l.trans (clN_len S9.par (S9.members,S9.purses) S9.members.length).1
  have x10:(ejS (ajS S9) t (ajS S9).members.length).exit.length≤S9.exit.length:=exN_len _ _ _ _
  have ou10:(ejR (ajS S9) R9 (ajS S9).members.length).out=R9.out++ouN (ajS S9).par (ajS S9).members (ajS S9).members.length:=rfl
  have la10:(ajS S9).members.length≤128:=by rw [show (ajS S9).members.length=S9.members.length from (clN_len S9.par (S9.members,S9.purses) S9.members.length).1]; exact ti9.ml
  obtain ⟨S10,hS10⟩:∃ x,x=ejS (ajS S9) t (ajS S9).members.length:=⟨_,rfl⟩
  obtain ⟨R10,hR10⟩:∃ x,x=ejR (ajS S9) R9 (ajS S9).members.length:=⟨_,rfl⟩
  rw [← hS10] at i10d tiE l10 x10
  rw [← hR10] at ok10 ou10
  rw [← hS10,← hR10]
  have eT:tickS s=seS S10:=by rw [tickS,e10,hS10]; rfl
  have eR:tickR s=R10:=by rw [tickR,e10,hR10]; rfl
  have eP10:(ajS S9).purses=S10.purses:=by rw [hS10]; rfl
  rw [eP10] at i10p
  obtain ⟨pa10,pc10,rfl,_⟩:=i10p.open
  obtain ⟨da10,dc10,rfl,_⟩:=i10d.open
  have iP:=i10p
  have iD:=i10d
  have kE:S10.marks=s.marks:=by rw [hS10]; exact k9
  have rE:S10.ring=s.ring:=by rw [hS10]; exact r9
  have mE:S10.motions=S9.motions:=by rw [hS10]; rfl
  have oE:S10.pool=S9.pool:=by rw [hS10]; rfl
  have nE:S10.entry=S9.entry:=by rw [hS10]; rfl
  have okmE:okO om8 S10.members.length:=by rw [l10]; exact okm8
  have okxE:okO xo S10.exit.length:=okO_le okx8 x10
  have okoE:=ok10
  have obE:∀ z∈R10.out,0≤z∧z<((128:Nat):Int):=fun z hz=>by
   rw [ou10] at hz
   rcases List.mem_append.1 hz with hz | hz
   ·rw [ro9.1] at hz; exact ro8.2.2.1 z hz
   ·have:=ou_b _ _ _ z hz; omega
  have olE:R10.out.length≤1000:=by
   rw [ou10,List.length_append,ro9.1]
   have:=ouN_len (ajS S9).par (ajS S9).members (ajS S9).members.length
   omega
  have leE:=le19.trans le10
  have leE9:=le10
  have lE:R10.left=lvW S5∧R10.started=R9.started∧R10.done=R9.done:=by rw [hR10]; exact ⟨ro9.2.1.trans ro8.1,rfl,rfl⟩
  refine xx ?_
  have ml10:S10.members.length≤128:=tiE.ml
  have lenS:(seS S10).members.length=S10.members.length:=upN_len _ _ _
  refine Spec.fin (Spec.weaken (Drop.perm _ permT6) (Spec.apn (tsettle_any (s:=S10) (v:=⟨.slice pa10 S10.purses.length pc10,ovs om8 S9.members.length,ovs oe8 S9.entry.length,ovs xo S10.exit.length,.slice oa8 S8.pool.length oc8,.slice da10 S10.dues.length dc10,.slice ta9 q9.length tc9,.slice uka s.marks.length ukc,.slice ura s.ring.length urc⟩) (om:=om8) (r:=R10) (q:=⟨ovs oo10 R10.out.length,.slice la7 (lvW S5).length lc7,ovs os8 R9.started.length,ovs od9 R9.done.length⟩) tiE (by rw [kE]; exact ik.up leE) ⟨uqr,ir1.up leE,ir2.trans rE.symm⟩ (by rw [rE]; exact few.r) (by rw [rE]; exact few.b) (by rw [kE]; exact few.k) (by rw [l10]) okmE fun hz kvz rvz lez iz1 iz2 ap nd=>?_)))
  obtain ⟨kza,kzc,rfl,_⟩:=iz1.open
  obtain ⟨qz,z1,z2⟩:=iz2
  obtain ⟨rza,rzc,rfl,_⟩:=z1.open
  have ap:=Ap.perm permT8 ap
  have nd:=Nd.perm permT8 nd
  have eln:=row_len tiE.en
  have elx:=row_len tiE.ex
  obtain ⟨g1,l1,dr1,sl1,ap,nd⟩:=pub_nx (n:=(seS S10).members.length) (by rw [lenS]; exact okmE) (flatG_len memC_len _) (by omega) ap nd
  obtain ⟨g2,l2,dr2,sl2,ap,nd⟩:=pub_nx (n:=R10.out.length) (sz:=1) okoE (by simp) (by omega) ap nd
  obtain ⟨g3,l3,dr3,sl3,ap,nd⟩:=pub_nx (n:=S10.exit.length) (sz:=1) okxE (by simp) (by omega) ap nd
  obtain ⟨g4,l4,dr4,sl4,ap,nd⟩:=pub_nx (n:=R9.done.length) (sz:=1) okd9 (by simp) (okO_le9 okd9) ap nd
  obtain ⟨g5,l5,dr5,sl5,ap,nd⟩:=pub_nx (n:=S9.entry.length) (sz:=1) oke8 (by simp) (okO_le9 oke8) ap nd
  obtain ⟨g6,l6,dr6,sl6,ap,nd⟩:=pub_nx (n:=R9.started.length) (sz:=1) oks8 (by simp) (okO_le9 oks8) ap nd
  refine ⟨_,_,(Drop.perm _ permT8).trans (dr1.trans (dr2.trans (dr3.trans (dr4.trans (dr5.trans dr6))))),?_⟩
  obtain ⟨hc5,hc3,hc2,hc1,_⟩:=ap
  simp only at hc5 hc3 hc2 hc1
  clear nd dr1 dr2 dr3 dr4 dr5 dr6
  have m56:=l5.trans l6
  have m46:=l4.trans m56
  have m36:=l3.trans m46
  have m26:=l2.trans m36
  have mz6:=lez.trans (l1.trans m26)
  have hIS:IsSt g6 ⟨.slice pa10 S10.purses.length pc10,ovs om8 S9.members.length,ovs oe8 S9.entry.length,ovs xo S10.exit.length,.slice oa8 S8.pool.length oc8,.slice da10 S10.dues.length dc10,.slice ta9 q9.length tc9,.slice kza (List.replicate 16 (0:Int)).length kzc,.slice rza qz.length rzc⟩ (tickS s):=by
   rw [eT]
   have hn:=tiE.ok.n
   have hp1:=tiE.ep
   simp only [List.forall_mem_cons] at hn
   refine ⟨⟨tiE.ok.p,tiE.ok.u,?_⟩,iP.up mz6,?_,?_,?_,?_,?_,fun x hx=>(tiE.oo x hx).1,iD.up mz6,fun x hx=>(tiE.dd x hx).1,⟨q9,i9t1.up (leE9.trans mz6),i9t2.trans mE.symm,fun x hx=>(i9t3 x hx).up (leE9.trans mz6)⟩,iz1.up (l1.trans m26),?_⟩
   ·show ∀ z∈[S10.ep+1,S10.calm],_
    simp only [List.forall_mem_cons]
    exact ⟨by omega,hn.2⟩
   ·have:=Recs.pub (f:=memC) (w:=6) (l:=(seS S10).members) (o:=om8) memC_len (sl1.up m26)
    rw [lenS] at this
    exact (by rw [l10] at this; exact this)
   ·exact upN_ok MemOk (fun m hm=>setF_ok tiE.ok.p tiE.r hm) tiE.be.m _ (Nat.le_refl _)
   ·exact row_ints (st:=1) (by show RowP S10.members S10.entry 1; exact tiE.en) ml10 (by show Sl _ _ S10.entry.length 1 (S10.entry.map _); rw [nE]; exact sl5.up l6)
   ·exact row_ints (st:=3) (by show RowP S10.members S10.exit 3; exact tiE.ex) ml10 (sl3.up m46)
   ·show Recs depC 4 g6 _ S10.pool
    rw [oE]
    exact i8o9.up (leE9.trans mz6)
   ·exact ⟨qz,z1.up (l1.trans m26),z2⟩
  have hRP:RepIs g6 ⟨ovs oo10 R10.out.length,.slice la7 (lvW S5).length lc7,ovs os8 R9.started.length,ovs od9 R9.done.length⟩ (tickR s):=by
   rw [eR]
   refine ⟨nu64 (sl2.up m36) fun z hz=>by have:=obE z hz; omega,by rw [lE.1]; exact i7l.up ((le8.trans (le9.trans leE9)).trans mz6),?_,?_⟩
   ·rw [lE.2.1]
    exact nu64 sl6 fun z hz=>by have:=ro8.2.2.2.1 z (by rw [← ro9.2.2]; exact hz); omega
   ·rw [lE.2.2]
    exact nu64 (sl4.up m56) fun z hz=>by have:=dn9 z hz; omega
  have hk:=hk g6 _ _ (le1.trans (leE.trans mz6)) hIS hRP
  rw [eT,eR] at hk
  refine xx ?_
  refine xanyl (.tk 0 (.tk 1 (.tk 2 (.tk 4 (.tk 5 (.tk 6 (.tkl 3 (.or true 7 (.or false 8 (.or false 9 (.tk 10 (.fin)) (.nil)) (.nil)) (.or false 8 (.or true 7 (.or false 9 (.tk 10 (.fin)) (.nil)) (.nil)) (.nil)))))))))) (by kernel_rfl) (by kernel_rfl) _ (Drop.refl _ _) ?_
  repeat' first
   | with_reducible refine xpl_or ?_ ?_
   | simp -dsimp -implicitDefEqProofs (disch:=first|with_reducible assumption|omega) [go_sem]
   | fail
  all_goals exact fin_tail (fin_tail (fin_tail (fin_tail (fin_here hk))))
theorem tick8 {s:StD} {D:Nat} (ti:TkI s D) (ms:∀ m∈s.members,MI s.par m):TkI (tk7 s).1 (D+192)∧Fr s (tk7 s).1∧TkI (tk8 s).1 (D+256)∧(∀ m∈(tk8 s).1.members,MI s.par m∧MF s.par m)∧(tk8 s).1.par=s.par∧(tk8 s).1.ep=s.ep∧(tk8 s).1.members.length≤128:=by
 have hpc:=parR_streak ti.r
 have hep:=ti.ep
 have hml:=ti.ml
 have hA:=act_le ti.ml ms
 have ht:0≤atP s∧atP s≤2147483647:=by unfold atP; omega
 have hact:0≤actS s∧actS s≤18446744073709551615:=by
  have:=pre_le (ks:=s.marks) ti.be.m
  have e:actS s=actL s.members:=rfl
  omega
 have ti2:TkI (tk2 s).1 D:=wg_ti ti
 have f2:Fr s (tk2 s).1:=fr_wg s
 have m2:∀ m∈(tk2 s).1.members,MI s.par m:=wg_ms ti ms
 have ra2:0≤(tk2 s).2.act∧(tk2 s).2.act≤18446744073709551615:=hact
 obtain ⟨S2,hS2⟩:∃ x,x=(tk2 s).1:=⟨_,rfl⟩
 obtain ⟨R2,hR2⟩:∃ x,x=(tk2 s).2:=⟨_,rfl⟩
 have rb2:R2.burned=0:=by rw [hR2]; rfl
 have e3:tk3 s=(mtS S2 R2,mtR S2 R2):=by rw [hS2,hR2]; rfl
 rw [← hS2] at ti2 f2 m2
 rw [← hR2] at ra2
 have ti3:=mt_ti ti2 ra2
 have f3:=f2.next (fr_mt S2 R2)
 have m3:∀ m∈(mtS S2 R2).members,MI s.par m:=by
  rw [← f2.par] at m2 ⊢
  exact mt_ms ti2 ra2 m2 _ (Nat.le_refl _)
 have rb3:(mtR S2 R2).burned=0:=rb2
 obtain ⟨S3,hS3⟩:∃ x,x=mtS S2 R2:=⟨_,rfl⟩
 obtain ⟨R3,hR3⟩:∃ x,x=mtR S2 R2:=⟨_,rfl⟩
 rw [← hS3] at ti3 f3 m3 e3
 rw [← hR3] at rb3 e3
 have e4:tk4 s=(fnS S3 R3,fnR S3 R3 S3.members.length):=by unfold tk4; rw [e3]
 have ti4:=fn_ti ti3 rb3
 have f4:=f3.next (fr_fn S3 R3)
 have m4:∀ m∈(fnS S3 R3).members,MI s.par m:=by
  rw [← f3.par] at m3 ⊢
  exact fn_ms ti3 R3 m3
 obtain ⟨S4,hS4⟩:∃ x,x=fnS S3 R3:=⟨_,rfl⟩
 rw [← hS4] at ti4 f4 m4 e4
 have e5:(tk5 s).1=ejS S4 (atP s) S4.members.length:=by unfold tk5; rw [e4]; rfl
 have ti5:=ejk_ti ti4 ht (Nat.le_refl S4.members.length)
 have f5:=f4.next (fr_ej S4 (atP s))
 have m5:∀ m∈(ejS S4 (atP s) S4.members.length).members,MI s.par m∧MF s.par m:=by
  rw [← f4.par] at m4 ⊢
  exact ej_ms ti4.r _ m4
 rw [← e5] at ti5 f5 m5
 have l4:=f4.l
 have ti7:TkI (tk7 s).1 (D+192):=(lv_ti ti5 ht).mono (by omega)
 have f7:Fr s (tk7 s).1:=f5.next (fr_lv (tk5 s).1 (atP s))
 have m7:∀ m∈(tk7 s).1.members,MI s.par m∧MF s.par m:=by
  rw [← f5.par] at m5 ⊢
  exact lv_ms ti5.r (atP s) _ m5 _
 have ti8:TkI (tk8 s).1 (D+256):=en_ti ti7 (tk7 s).2 ht
 have m8:∀ m∈(tk8 s).1.members,MI s.par m∧MF s.par m:=by
  rw [← f7.par] at m7 ⊢
  exact en_ms ti7 (tk7 s).2 (atP s) m7
 obtain ⟨a8,b8,_⟩:=en_fr (tk7 s).1 (tk7 s).2 (atP s)
 exact ⟨ti7,f7,ti8,m8,a8.trans f7.par,b8.trans f7.ep,ti8.ml⟩
structure Rs (a b:RepD):Prop where
 ep:b.ep=a.ep
 mode:b.mode=a.mode
 quo:b.quo=a.quo
 pres:b.pres=a.pres
 act:b.act=a.act
 mint:b.mint=a.mint
 paid:b.paid=a.paid
 kept:b.kept=a.kept
theorem Rs.next {a b c:RepD} (h:Rs a b) (h2:Rs b c):Rs a c:=⟨h2.ep.trans h.ep,h2.mode.trans h.mode,h2.quo.trans h.quo,h2.pres.trans h.pres,h2.act.trans h.act,h2.mint.trans h.mint,h2.paid.trans h.paid,h2.kept.trans h.kept⟩
theorem rs7 (s:StD):Rs (tk3 s).2 (tk7 s).2:=⟨rfl,rfl,rfl,rfl,rfl,rfl,rfl,rfl⟩
theorem rs8 (s:StD):Rs (tk7 s).2 (tk8 s).2:=by
 show Rs _ (enR (tk7 s).1 (tk7 s).2 (atP s))
 unfold enR
 split
 ·exact ⟨rfl,rfl,rfl,rfl,rfl,rfl,rfl,rfl⟩
 ·exact ⟨rfl,rfl,rfl,rfl,rfl,rfl,rfl,rfl⟩
theorem rs9 (s:StD):Rs (tk8 s).2 (tk9 s).2:=⟨rfl,rfl,rfl,rfl,rfl,rfl,rfl,rfl⟩
theorem rs10 (s:StD):Rs (tk9 s).2 (tickR s):=by
 unfold tickR tk10
 split
 ·exact ⟨rfl,rfl,rfl,rfl,rfl,rfl,rfl,rfl⟩
 ·exact ⟨rfl,rfl,rfl,rfl,rfl,rfl,rfl,rfl⟩
theorem rsT (s:StD):Rs (tk3 s).2 (tickR s):=(rs7 s).next ((rs8 s).next ((rs9 s).next (rs10 s)))
theorem tick_rep (s:StD):(tickR s).ep=s.ep∧(tickR s).mode=modeS s∧(tickR s).quo=(stepP s.calm (preS s) (actS s)).2∧(tickR s).pres=preS s∧(tickR s).act=actS s ∧
  (tickR s).mint=mtN (wgS s) (wgR s (r0P s))∧(tickR s).paid=tot (mtP (wgS s) (wgR s (r0P s)))∧(tickR s).kept=mtN (wgS s) (wgR s (r0P s))-tot (mtP (wgS s) (wgR s (r0P s))):=by
 have h:=rsT s
 refine ⟨h.ep,h.mode,h.quo,h.pres,h.act,h.mint,?_,h.kept⟩
 rw [h.paid]
 show (0:Int)+sumK (mtP (wgS s) (wgR s (r0P s))) (mtW (wgS s)).length=_
 have e:(mtP (wgS s) (wgR s (r0P s))).length=(mtW (wgS s)).length:=by rw [mtP,prizeL_len,mtL,List.length_map]; rfl
 rw [tot,e]; omega
theorem calm7 (s:StD):(tk7 s).1.calm=(stepP s.calm (preS s) (actS s)).1:=rfl
theorem en_calm (s:StD) (r:RepD) (t:Int):(enS s r t).calm=s.calm:=by
 unfold enS
 split<;>rfl
theorem ej_calm (s:StD) (r:RepD) (t:Int):(ejP2 t (ajS s,r)).1.calm=s.calm:=rfl
theorem mo_calm (s:StD) (r:RepD):(moS s r).calm=s.calm:=rfl
theorem se_calm (s:StD):(seS s).calm=s.calm:=rfl
theorem tick_calm (s:StD):(tickS s).calm=(stepP s.calm (preS s) (actS s)).1:=by
 have e8:(tk8 s).1.calm=(stepP s.calm (preS s) (actS s)).1:=(en_calm (tk7 s).1 (tk7 s).2 (atP s)).trans (calm7 s)
 have e9:(tk9 s).1.calm=(tk8 s).1.calm:=mo_calm (tk8 s).1 (tk8 s).2
 have e10:(tk10 s).1.calm=(tk9 s).1.calm:=by
  by_cases c:(tk9 s).1.par=s.par
  ·rw [tk10,if_pos c]
  ·rw [tk10,if_neg c]; exact ej_calm _ _ _
 have eS:(tickS s).calm=(tk10 s).1.calm:=se_calm (tk10 s).1
 rw [eS,e10,e9,e8]
def DuP (l:List DueD):Prop:=LineD l∧∀ x∈l,(0≤x.at'∧x.at'≤2147483647)∧1≤x.amt
structure Fz (s S:StD):Prop where
 k:S.marks=s.marks
 r:S.ring=s.ring
 pn:S.purses.length=s.purses.length
 ml:s.members.length≤S.members.length
 o:S.pool=s.pool∨S.pool=[]
 du:DuP s.dues→DuP S.dues
theorem Fz.next {s S S':StD} (h:Fz s S) (h2:Fz S S'):Fz s S' :=
 ⟨h2.k.trans h.k,h2.r.trans h.r,h2.pn.trans h.pn,Nat.le_trans h.ml h2.ml,by
  rcases h2.o with e | e
  ·rw [e]; exact h.o
  ·exact .inr e,fun x=>h2.du (h.du x)⟩
end Go.X

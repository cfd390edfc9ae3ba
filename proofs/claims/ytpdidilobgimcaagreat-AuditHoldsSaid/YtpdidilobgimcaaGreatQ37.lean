/- Lemmas and contracts. Conditions: as each says. -/
import Derived.Test.YtpdidilobgimcaaGreatQ36
set_option linter.unusedVariables false
set_option linter.unusedSimpArgs false
set_option maxHeartbeats 12800000
set_option maxRecDepth 20000
namespace Go.X
open Go.RowKit Go.Proofs Go.Bl Go.Proofs.Tryz
structure Zz (r:Zf):Prop where
 u:∀z∈[r.pres,r.act,r.mint,r.paid,r.kept,r.burned,r.fees],0≤z∧z≤18446744073709551615
 n:∀z∈[r.ep,r.mode],-9223372036854775808≤z∧z≤9223372036854775807
def Ur (x y:Zk):Bool:=(x.acct == y.acct)&&((x.mem == y.mem)&&((x.amt == y.amt)&&((x.new == y.new)&&true)))
theorem Zma (x:Zk):Ur x x=true:=by simp [Ur]
def Vb (l m:List Zk):Bool:=decide (l.length=m.length)&&decide (∀j,j<l.length→Ur (gr Z4 l j) (gr Z4 m j)=true)
theorem Zlr (l:List Zk):Vb l l=true:=by
 rw[Vb,decide_eq_true rfl,decide_eq_true fun j _=>Zma _];rfl
def Zah (n a b:Int):Bool:=decide (a+b=n)
def WO (a b:Ze)(r:Zf):Bool:=decide (b.ep=a.ep+1)&&(decide (r.ep=a.ep)&&(decide (a.most=b.most)&&decide (a.gen=b.gen)))
def Ud (a b:Ze)(r:Zf):Bool:=Zah b.mint a.mint r.mint&&Zah b.burn a.burn r.burned
def WZ (a:Ze)(r:Zf):Bool:=Zah r.mint r.paid r.kept&&(decide (r.mint=0)||(!decide (r.mode=3∨r.mode=4)&&decide (r.mint=Zdj a.par r.act)))
def Zyl (p a:Int):Bool:=decide (0<a)&&decide (2*a<3*p)
def Zlb (c:Int)(q:Bool):Int:=if q=true then 0 else min c 1073741823+1
def UW (a b:Ze)(r:Zf):Bool:=decide (Jw a=r.pres)&&(decide (WX a=r.act)&&(decide (r.quo=Zyl (Jw a) (WX a))&&decide (b.calm=Zlb a.calm r.quo)))
def Zvq (a b:Ze):Bool:=decide (∀j,j<b.members.length→(gr ZR b.members j).status=2→(gr ZR a.members j).status=2)
def Wv (a b:Ze)(r:Zf):Bool:=r.quo||(decide (a.par=b.par)&&(decide (a.members.length=b.members.length)&&(Vb a.pool b.pool&&Zvq a b)))
abbrev AuM (a b:Ze)(i:Nat):Prop:=(gr ZR a.members i).status=2→WU a.marks i=true→GA (gr ZR b.members i)∧(gr ZR a.members i).bal≤(gr ZR b.members i).bal∧(gr ZR a.members i).streak≤(gr ZR b.members i).streak
def Zts (a b:Ze):Bool:=decide (∀i,i<a.members.length→AuM a b i)
def WG (a b:Ze):Bool := !decide (a.par=b.par)||(decide (a.members.length≤b.members.length)&&Zts a b)
def YX (a b:Ze)(r:Zf):Int :=
 if (Yb a&&Yb b)=false then 1 else if WO a b r=false then 2 else if Ud a b r=false then 3 else if WZ a r=false then 4 else if UW a b r=false then 5 else if Wv a b r=false then 6 else if WG a b=false then 7 else 0
theorem Zmb {a b:Ze}{r:Zf}(h:b.ep≠a.ep+1):YX a b r≠0:=by
 have e:WO a b r=false:=by rw[WO,decide_eq_false h];rfl
 unfold YX;rw[e];split<;>simp
theorem Zsb {a b:Ze}{r:Zf}(h:b.mint≠a.mint+r.mint):YX a b r≠0:=by
 have e:Ud a b r=false:=by rw[Ud,Zah,decide_eq_false (fun c=>h c.symm)];rfl
 unfold YX;rw[e];split
 ·simp
 ·split<;>simp
structure ZC (m n:Zc):Prop where
 s:n.status=2
 b:m.bal≤n.bal
 k:m.streak≤n.streak
theorem Jv {l:List Zc}{i j:Nat}{m:Zc}(e:j≠i):gr ZR (l.set i m) j=gr ZR l j:=by
 by_cases hi:i<l.length
 ·rw[WT hi,if_neg e]
 ·rw[List.set_eq_of_length_le (by omega)]
theorem Zok (a b:Int):0≤Wd a b:=by
 unfold Wd;split<;>omega
theorem up_wg {s:Ze}{i:Nat}(hi:i<s.members.length)(m:MI s.par (gr ZR s.members i))(h2:(gr ZR s.members i).status=2)(hg:WU s.marks i=true):ZC (gr ZR s.members i) (gr ZR (wgS s).members i):=by
 have e:gr ZR (wgS s).members i=wgF s.par s.marks (VX s) i (gr ZR s.members i):=by
  show gr ZR (upI _ _ _) i=_;rw[Zeg _ _ _ (Nat.le_refl _),if_pos hi]
 have h:=m.st;rw[e,wgF,if_pos (.inl h2),hg,V3,if_pos rfl];refine⟨h2,Int.le_refl _,?_⟩;show (gr ZR s.members i).streak≤(if max (gr ZR s.members i).streak 0<s.par.streak then max (gr ZR s.members i).streak 0+1 else s.par.streak);rw[Int.max_eq_left h.1];split
 ·exact Int.le_add_one (Int.le_refl _)
 ·exact h.2
theorem Yhh {s:Ze}{D:Nat}(ti:Zq s D){r:Zf}(ha:0≤r.act∧r.act≤18446744073709551615)(j:Nat):∀k,k≤(mtW s).length→(gr ZR s.members j).bal≤(gr ZR (mtX s r k).1 j).bal∧(gr ZR s.members j).streak≤(gr ZR (mtX s r k).1 j).streak
 | 0,_=>⟨Int.le_refl _,Int.le_refl _⟩
 | k+1,hk=>by
  obtain⟨h1,h2⟩:=Yhh ti ha j k (by omega);have hP:=((Ymj ti ha).1 k).1;show (gr ZR s.members j).bal≤(gr ZR ((mtX s r k).1.set ((mtW s).getD k 0) (UD s.par (gr ZR (mtX s r k).1 ((mtW s).getD k 0)) (at0 (mtP s r) k)).1) j).bal∧(gr ZR s.members j).streak≤(gr ZR ((mtX s r k).1.set ((mtW s).getD k 0) (UD s.par (gr ZR (mtX s r k).1 ((mtW s).getD k 0)) (at0 (mtP s r) k)).1) j).streak
  generalize (mtW s).getD k 0=i
  by_cases e:j=i
  ·subst e;by_cases c:j<(mtX s r k).1.length
   ·rw[WT c,if_pos rfl];have hf:=Zok s.par.cap (gr ZR (mtX s r k).1 j).bal;refine⟨?_,h2⟩;show _≤(gr ZR (mtX s r k).1 j).bal+min (at0 (mtP s r) k) (Wd s.par.cap (gr ZR (mtX s r k).1 j).bal);omega
   ·rw[List.set_eq_of_length_le (by omega)];exact⟨h1,h2⟩
  ·rw[Jv e];exact⟨h1,h2⟩
theorem up_mt {s:Ze}{D:Nat}(ti:Zq s D){r:Zf}(ha:0≤r.act∧r.act≤18446744073709551615){m:Zc}{i:Nat}(h:ZC m (gr ZR s.members i)):ZC m (gr ZR (mtS s r).members i):=by
 obtain⟨h1,h2⟩:=Yhh ti ha i (mtW s).length (Nat.le_refl _);have h3:=((Yku ti ha (Nat.le_refl _)).s i).1;have hb:=h.b;have hk:=h.k;show ZC m (gr ZR (mtX s r (mtW s).length).1 i);exact⟨h3.trans h.s,by omega,by omega⟩
theorem up_fn {s:Ze}(r:Zf){m:Zc}{i:Nat}(hi:i<s.members.length)(hg:WU s.marks i=true)(h:ZC m (gr ZR s.members i)):ZC m (gr ZR (fnS s r).members i):=by
 have e:gr ZR (fnS s r).members i=fnF s.par s.marks r.mode i (gr ZR s.members i):=by
  show gr ZR (upI _ _ _) i=_;rw[Zeg _ _ _ (Nat.le_refl _),if_pos hi]
 rw[e,fnF,if_neg (fun c=>by have c2:=c.2;rw[hg]at c2;cases c2)];exact h
theorem up_ej {s:Ze}(t:Int){m:Zc}{i:Nat}(hi:i<s.members.length)(hb:s.par.floor<m.bal)(h:ZC m (gr ZR s.members i)):ZC m (gr ZR (ejS s t s.members.length).members i):=by
 have e:gr ZR (ejS s t s.members.length).members i=ejF s.par (gr ZR s.members i):=by
  show gr ZR (upN _ _ _) i=_;rw[U9 _ _ _ (Nat.le_refl _),if_pos hi]
 have h1:=h.b;rw[e,ejF,if_neg (fun c=>by have:=c.2;omega)];exact h
theorem Ygo {t:Int}{W:List Int}{x:List Zc×List Zi}{j:Nat}(hW:∀z∈W,j≠z.toNat):∀k,k≤W.length→gr ZR (lvK t W x k).1 j=gr ZR x.1 j
 | 0,_=>rfl
 | k+1,hk=>by
  have ih:=Ygo (t:=t) (x:=x) hW k (by omega);have hz:at0 W k∈W:=by rw[← Yf (by omega)];exact List.getElem_mem _
  show gr ZR ((lvK t W x k).1.set (at0 W k).toNat _) j=_;rw[Jv (hW _ hz),ih]
theorem up_lv {s:Ze}{D:Nat}(ti:Zq s D)(t:Int){m:Zc}{i:Nat}(h:ZC m (gr ZR s.members i)):ZC m (gr ZR (lvS s t).members i):=by
 show ZC m (gr ZR (lvK t (lvW s) (s.members,s.dues) (lvW s).length).1 i);rw[Ygo (fun z hz e=>?_) _ (Nat.le_refl _)]
 ·exact h
 ·have h1:=(VC ti.ex (List.mem_of_mem_take hz)).2.2;have h2:=h.s;rw[e]at h2;omega
theorem Zub {p:Zd}{j:Nat}{a acct:Int}(ha:0≤a){x:ZK}{m:Zc}{i:Nat}(hj:j=i→j<x.ms.length)(h:ZC m (gr ZR x.ms i)):ZC m (gr ZR (Znc p j a acct x).ms i):=by
 show ZC m (gr ZR (x.ms.set j (Uu p (gr ZR x.ms j) a)) i);by_cases e:i=j
 ·have hl:=hj e.symm;subst e;rw[WT hl,if_pos rfl];have hf:=Zok p.cap (gr ZR x.ms i).bal;have h1:=h.s;have h2:=h.b;rw[Uu,if_neg (by omega)];exact⟨h1,by show m.bal≤(gr ZR x.ms i).bal+min a (Wd p.cap (gr ZR x.ms i).bal);omega,h.k⟩
 ·rw[Jv e];exact h
theorem Zzo {p:Zd}{d:Zk}(ha:0≤d.amt){x:ZK}{m:Zc}{i:Nat}(hi:i<x.ms.length)(h:ZC m (gr ZR x.ms i)):ZC m (gr ZR (Wp p d x).ms i):=by
 unfold Wp;split
 ·split
  ·exact h
  ·refine Zub ha (fun e=>absurd e (by omega)) ?_;show ZC m (gr ZR (x.ms++[_]) i);rw[Z7 (by simp;omega),List.getElem_append_left hi,← Z7 (z:=ZR) hi];exact h
 ·exact Zub ha (fun e=>e ▸ hi) h
theorem Yft {p:Zd}{l:List Zk}(hl:∀d∈l,0≤d.amt){x:ZK}{m:Zc}{i:Nat}(hi:i<x.ms.length)(h:ZC m (gr ZR x.ms i)):∀k,k≤l.length→i<(crK p l x k).ms.length∧ZC m (gr ZR (crK p l x k).ms i)
 | 0,_=>⟨hi,h⟩
 | k+1,hk=>by
  obtain⟨h1,h2⟩:=Yft (p:=p) hl hi h k (by omega);exact⟨Nat.lt_of_lt_of_le h1 (Zem _ _),Zzo (hl _ (Yz (by omega))) h1 h2⟩
theorem Yrl {s:Ze}{D:Nat}(ti:Zq s D)(r:Zf){t:Int}(ht:0≤t∧t≤2147483647){m:Zc}{i:Nat}(h:ZC m (gr ZR (enX s).ms i)):∀k,k≤(enW s).length→ZC m (gr ZR (stK s.par t (enW s) ⟨(enX s).ms,s.dues,s.exit,r.out,r.started⟩ k).ms i)
 | 0,_=>h
 | k+1,hk=>by
  have ih:=Yrl ti r ht h k (by omega);have st:=Zqx ti r ht (k:=k) (by omega);have hd0:(enW s).drop k=at0 (enW s) k::(enW s).drop (k+1):=by rw[List.drop_eq_getElem_cons (by omega),Yf (by omega)]
  have hin:=VC st.e (z:=at0 (enW s) k) (by rw[hd0];simp);have h2:=ih.s;have e:i≠(at0 (enW s) k).toNat:=fun e=>by rw[e]at h2;omega
  rw[stK,J0];split
  ·show ZC m (gr ZR (List.set _ _ _) i);rw[Jv e];exact ih
  ·show ZC m (gr ZR (List.set _ _ _) i);rw[Jv e];exact ih
theorem up_en {s:Ze}{D:Nat}(ti:Zq s D)(r:Zf){t:Int}(ht:0≤t∧t≤2147483647){m:Zc}{i:Nat}(hi:i<s.members.length)(h:ZC m (gr ZR s.members i)):ZC m (gr ZR (enS s r t).members i):=by
 unfold enS;split
 ·exact Yrl ti r ht (Yft (p:=s.par) (x:=⟨s.members,s.purses,s.entry⟩) (fun d hd=>(ti.oo d hd).1.a.1) hi h _ (Nat.le_refl _)).2 _ (Nat.le_refl _)
 ·exact h
theorem up_se {s:Ze}{m:Zc}{i:Nat}(hi:i<s.members.length)(h:ZC m (gr ZR s.members i)):ZC m (gr ZR (seS s).members i):=by
 have e:gr ZR (seS s).members i=JI s.par (gr ZR s.members i):=by
  show gr ZR (upN _ _ _) i=_;rw[U9 _ _ _ (Nat.le_refl _),if_pos hi]
 rw[e];unfold JI;split
 ·exact⟨h.s,h.b,h.k⟩
 ·exact h
theorem Yzu (s:Ze):(seS s).members.length=s.members.length:=WD _ _ _
theorem Yqs (s:Ze):(seS s).par=s.par:=rfl
theorem Ywi (s:Ze)(r:Zf)(t:Int):(Zoo t (ajS s,r)).1.par=s.par:=rfl
theorem Ykv {s:Ze}{D:Nat}(ti:Zq s D)(ms:∀m∈s.members,MI s.par m∧MF s.par m)(hp:(YN s).par=s.par):s.members.length≤(YN s).members.length∧∀i,i<s.members.length→(gr ZR s.members i).status=2→WU s.marks i=true→ZC (gr ZR s.members i) (gr ZR (YN s).members i):=by
 have hpc:=Yh ti.r;have hep:=ti.ep;have hml:=ti.ml;have hA:=Gq ti.ml fun m hm=>(ms m hm).1;have ht:0≤atP s∧atP s≤2147483647:=by unfold atP;omega
 have hact:0≤WX s∧WX s≤18446744073709551615:=by
  have:=Vg (ks:=s.marks) ti.be.m;have e:WX s=WS s.members:=rfl;omega
 have e10:WY s=tk9 s:=by
  have h0:(YN s).par=(WY s).1.par:=Yqs (WY s).1;have h1:(WY s).1.par=s.par:=h0.symm.trans hp;by_cases c:(tk9 s).1.par=s.par
  ·rw[WY,if_pos c]
  ·rw[WY,if_neg c,Ywi]at h1;exact absurd h1 c
 obtain⟨_,z10,_⟩:=Zur ti fun m hm=>(ms m hm).1;have eS:YN s=seS (WY s).1:=rfl;have hl:(YN s).members.length=(WY s).1.members.length:=by rw[eS];exact Yzu _
 refine⟨by rw[hl];exact z10.ml,fun i hi h2 hg=>?_⟩;obtain⟨m,hm⟩:∃m,m=gr ZR s.members i:=⟨_,rfl⟩
 have mm:=ms _ (Yz (z:=ZR) hi);have hfl:s.par.floor<m.bal:=by rw[hm];exact mm.2 (.inl h2)
 have ti2:Zq (tk2 s).1 D:=Zks ti;have f2:Fr s (tk2 s).1:=Zxz s;have ra2:0≤(tk2 s).2.act∧(tk2 s).2.act≤18446744073709551615:=hact;have u2:ZC m (gr ZR (tk2 s).1.members i):=by rw[hm];exact up_wg hi mm.1 h2 hg
 obtain⟨S2,hS2⟩:∃x,x=(tk2 s).1:=⟨_,rfl⟩
 obtain⟨R2,hR2⟩:∃x,x=(tk2 s).2:=⟨_,rfl⟩
 have rb2:R2.burned=0:=by rw[hR2];rfl
 have e3:tk3 s=(mtS S2 R2,mtR S2 R2):=by rw[hS2,hR2];rfl
 rw[← hS2]at ti2 f2 u2;rw[← hR2]at ra2;have ti3:=Zut ti2 ra2;have f3:=f2.next (Yau S2 R2);have u3:=up_mt ti2 ra2 u2;have rb3:(mtR S2 R2).burned=0:=rb2;obtain⟨S3,hS3⟩:∃x,x=mtS S2 R2:=⟨_,rfl⟩
 obtain⟨R3,hR3⟩:∃x,x=mtR S2 R2:=⟨_,rfl⟩
 rw[← hS3]at ti3 f3 u3 e3;rw[← hR3]at rb3 e3;have e4:tk4 s=(fnS S3 R3,fnR S3 R3 S3.members.length):=by unfold tk4;rw[e3]
 have ti4:=Yey ti3 rb3;have f4:=f3.next (Zwc S3 R3);have u4:=up_fn R3 (i:=i) (by rw[f3.l];exact hi) (by rw[f3.k];exact hg) u3;obtain⟨S4,hS4⟩:∃x,x=fnS S3 R3:=⟨_,rfl⟩
 rw[← hS4]at ti4 f4 u4 e4;have e5:(tk5 s).1=ejS S4 (atP s) S4.members.length:=by unfold tk5;rw[e4];rfl
 have ti5:=Zdw ti4 ht (Nat.le_refl S4.members.length);have f5:=f4.next (Zsz S4 (atP s));have u5:=up_ej (atP s) (i:=i) (by rw[f4.l];exact hi) (by rw[f4.par];exact hfl) u4;rw[← e5]at ti5 f5 u5;have l4:=f4.l;have ti7:Zq (tk7 s).1 (D+192):=(Yjg ti5 ht).mono (by omega);have f7:Fr s (tk7 s).1:=f5.next (Zxw (tk5 s).1 (atP s));have u7:ZC m (gr ZR (tk7 s).1.members i):=up_lv ti5 (atP s) u5;have u8:ZC m (gr ZR (tk8 s).1.members i):=up_en ti7 (tk7 s).2 ht (by rw[f7.l];exact hi) u7;have u9:ZC m (gr ZR (tk9 s).1.members i):=u8;have z:=z10.ml;rw[← e10]at u9;rw[← hm,eS];exact up_se (Nat.lt_of_lt_of_le hi z) u9
def Was2 (l l':List Zc):Prop:=∀j,j<l.length→(gr ZR l' j).status=2→(gr ZR l j).status=2
theorem Was2.next {l l' l'':List Zc}(h:Was2 l l')(h2:Was2 l' l'')(e:l'.length=l.length):Was2 l l'':=fun j hj c=>h j hj (h2 j (by omega) c)
theorem Yuo (s:Ze):Was2 s.members (wgS s).members:=fun j hj c=>by
 have e:=(Ysq (f:=wgF s.par s.marks (VX s)) (fun k m=>⟨(Ztb _ _ _ _ _).1,(Ztb _ _ _ _ _).2.1⟩) s.members _ (Nat.le_refl _) j).2;exact e.symm.trans c
theorem Yxy {s:Ze}{D:Nat}(ti:Zq s D){r:Zf}(ha:0≤r.act∧r.act≤18446744073709551615):Was2 s.members (mtS s r).members:=fun j _ c =>
 ((Yku ti ha (Nat.le_refl _)).s j).1.symm.trans c
theorem Ysr (s:Ze)(r:Zf):Was2 s.members (fnS s r).members:=fun j hj c=>by
 have e:=(Ysq (f:=fnF s.par s.marks r.mode) (fun k m=>Ydv _ _ _ _ _) s.members _ (Nat.le_refl _) j).2;exact e.symm.trans c
theorem Yzc (s:Ze)(t:Int):Was2 s.members (ejS s t s.members.length).members:=fun j hj c=>by
 have e:gr ZR (ejS s t s.members.length).members j=ejF s.par (gr ZR s.members j):=by
  show gr ZR (upN _ _ _) j=_;rw[U9 _ _ _ (Nat.le_refl _),if_pos hj]
 rw[e,ejF]at c;split at c
 ·exact absurd c (by show ¬((4:Int)=2);decide)
 ·exact c
theorem Yfz (s:Ze)(t:Int):∀k,Was2 s.members (lvK t (lvW s) (s.members,s.dues) k).1
 | 0=>fun _ _ c=>c
 | k+1=>fun j hj c=>by
  have ih:=Yfz s t k j hj;have c2:(gr ZR ((lvK t (lvW s) (s.members,s.dues) k).1.set (at0 (lvW s) k).toNat (Gu (gr ZR (lvK t (lvW s) (s.members,s.dues) k).1 (at0 (lvW s) k).toNat) 5)) j).status=2:=c
  generalize (at0 (lvW s) k).toNat=i at c2
  by_cases e:j=i
  ·subst e;by_cases hl:j<(lvK t (lvW s) (s.members,s.dues) k).1.length
   ·rw[WT hl,if_pos rfl]at c2;exact absurd c2 (by show ¬((5:Int)=2);decide)
   ·rw[List.set_eq_of_length_le (by omega)]at c2;exact ih c2
  ·rw[Jv e]at c2;exact ih c2
theorem Yrv (s:Ze):Was2 s.members (seS s).members:=fun j hj c=>by
 have e:gr ZR (seS s).members j=JI s.par (gr ZR s.members j):=by
  show gr ZR (upN _ _ _) j=_;rw[U9 _ _ _ (Nat.le_refl _),if_pos hj]
 rw[e,(Uw _ _).1]at c;exact c
theorem Ydi {s:Ze}{D:Nat}(ti:Zq s D)(ms:∀m∈s.members,MI s.par m∧MF s.par m)(hq:(Yp s).quo=false):Was2 s.members (YN s).members:=by
 have hact:0≤WX s∧WX s≤18446744073709551615:=by
  have hA:=Gq ti.ml fun m hm=>(ms m hm).1;have:=Vg (ks:=s.marks) ti.be.m;have e:WX s=WS s.members:=rfl;omega
 have q7:(tk7 s).2.quo=false:=by have:=(rs8 s).next ((rs9 s).next (Wds s));rw[← this.quo];exact hq
 have q8:(tk8 s).2.quo=false:=by rw[(rs8 s).quo];exact q7
 have e8:tk8 s=tk7 s:=by
  show (enS (tk7 s).1 (tk7 s).2 (atP s),enR (tk7 s).1 (tk7 s).2 (atP s))=tk7 s;unfold enS enR;rw[q7];rfl
 have ti2:Zq (tk2 s).1 D:=Zks ti;have f2:Fr s (tk2 s).1:=Zxz s;have ra2:0≤(tk2 s).2.act∧(tk2 s).2.act≤18446744073709551615:=hact;have w2:Was2 s.members (tk2 s).1.members:=Yuo s;obtain⟨S2,hS2⟩:∃x,x=(tk2 s).1:=⟨_,rfl⟩
 obtain⟨R2,hR2⟩:∃x,x=(tk2 s).2:=⟨_,rfl⟩
 have e3:tk3 s=(mtS S2 R2,mtR S2 R2):=by rw[hS2,hR2];rfl
 rw[← hS2]at ti2 f2 w2;rw[← hR2]at ra2;have w3:=w2.next (Yxy ti2 ra2) f2.l;have f3:=f2.next (Yau S2 R2);obtain⟨S3,hS3⟩:∃x,x=mtS S2 R2:=⟨_,rfl⟩
 obtain⟨R3,hR3⟩:∃x,x=mtR S2 R2:=⟨_,rfl⟩
 rw[← hS3]at f3 w3 e3;rw[← hR3]at e3;have e4:tk4 s=(fnS S3 R3,fnR S3 R3 S3.members.length):=by unfold tk4;rw[e3]
 have w4:=w3.next (Ysr S3 R3) f3.l;have f4:=f3.next (Zwc S3 R3);obtain⟨S4,hS4⟩:∃x,x=fnS S3 R3:=⟨_,rfl⟩
 rw[← hS4]at f4 w4 e4;have e5:(tk5 s).1=ejS S4 (atP s) S4.members.length:=by unfold tk5;rw[e4];rfl
 have w5:=w4.next (Yzc S4 (atP s)) f4.l;have f5:=f4.next (Zsz S4 (atP s));rw[← e5]at f5 w5;have w7:Was2 s.members (tk7 s).1.members:=w5.next (Yfz (tk5 s).1 (atP s) _) f5.l;have f7:Fr s (tk7 s).1:=f5.next (Zxw (tk5 s).1 (atP s));have hp:=(Zuh (s:=(tk8 s).1) q8 _ (Nat.le_refl _)).1;have p9:(tk9 s).1.par=s.par:=by
  show (moX (tk8 s).1 (tk8 s).2 (moW (tk8 s).1 (tk8 s).2).length).par=_;rw[hp,e8];exact f7.par
 have e10:WY s=tk9 s:=by rw[WY,if_pos p9]
 have w9:Was2 s.members (tk9 s).1.members:=by
  show Was2 s.members (tk8 s).1.members;rw[e8];exact w7
 have l9:(tk9 s).1.members.length=s.members.length:=by
  show (tk8 s).1.members.length=_;rw[e8];exact f7.l
 have eS:YN s=seS (tk9 s).1:=by rw[YN,e10]
 rw[eS];exact w9.next (Yrv _) l9
theorem Yvi (s:Ze)(r:Zf)(t:Int):(enS s r t).mint=s.mint∧(enS s r t).burn=s.burn∧(enS s r t).most=s.most∧(enS s r t).gen=s.gen∧(enR s r t).burned=r.burned:=by
 unfold enS enR;split<;>exact⟨rfl,rfl,rfl,rfl,rfl⟩
theorem Yrn (s:Ze)(r:Zf):(moS s r).mint=s.mint∧(moS s r).burn=s.burn∧(moS s r).most=s.most∧(moS s r).gen=s.gen∧(moR s r).burned=r.burned:=⟨rfl,rfl,rfl,rfl,rfl⟩
theorem Ypv (s:Ze)(r:Zf)(t:Int):(Zoo t (ajS s,r)).1.mint=s.mint∧(Zoo t (ajS s,r)).1.burn=s.burn∧(Zoo t (ajS s,r)).1.most=s.most∧(Zoo t (ajS s,r)).1.gen=s.gen∧(Zoo t (ajS s,r)).2.burned=r.burned:=⟨rfl,rfl,rfl,rfl,rfl⟩
theorem se_mb (s:Ze):(seS s).mint=s.mint∧(seS s).burn=s.burn∧(seS s).most=s.most∧(seS s).gen=s.gen:=⟨rfl,rfl,rfl,rfl⟩
theorem mb7 (s:Ze):(tk7 s).1.mint=s.mint+mtN (wgS s) (wgR s (r0P s))∧(tk7 s).1.burn=s.burn+(tk7 s).2.burned∧(tk7 s).1.most=s.most∧(tk7 s).1.gen=s.gen:=⟨rfl,rfl,rfl,rfl⟩
theorem Zuo (s:Ze):(YN s).mint=s.mint+(Yp s).mint∧(YN s).burn=s.burn+(Yp s).burned∧(YN s).most=s.most∧(YN s).gen=s.gen:=by
 have hr:(Yp s).mint=mtN (wgS s) (wgR s (r0P s)):=(rsT s).mint;obtain⟨a7,b7,c7,d7⟩:=mb7 s;obtain⟨a8,b8,c8,d8,e8⟩:=Yvi (tk7 s).1 (tk7 s).2 (atP s);obtain⟨a9,b9,c9,d9,e9⟩:=Yrn (tk8 s).1 (tk8 s).2;have h10:(WY s).1.mint=(tk9 s).1.mint∧(WY s).1.burn=(tk9 s).1.burn∧(WY s).1.most=(tk9 s).1.most∧(WY s).1.gen=(tk9 s).1.gen∧(WY s).2.burned=(tk9 s).2.burned:=by
  by_cases c:(tk9 s).1.par=s.par
  ·rw[WY,if_pos c];exact⟨rfl,rfl,rfl,rfl,rfl⟩
  ·rw[WY,if_neg c];exact Ypv _ _ _
 obtain⟨a10,b10,c10,d10,e10⟩:=h10;obtain⟨aS,bS,cS,dS⟩:=se_mb (WY s).1;have e7:(Yp s).burned=(tk7 s).2.burned:=e10.trans (e9.trans e8);rw[hr,e7];exact⟨aS.trans (a10.trans (a9.trans (a8.trans a7))),bS.trans (b10.trans (b9.trans (b8.trans b7))),cS.trans (c10.trans (c9.trans (c8.trans c7))),dS.trans (d10.trans (d9.trans (d8.trans d7)))⟩
theorem Zdu {h:PH}{v:SV}{s:Ze}(hs:Zn h v s)(hf:Yb s=true)(he:s.ep<1073741824):YX s (YN s) (Yp s)=0:=by
 have ti:=Ztl hs hf he (Nat.le_refl s.dues.length);have ms:=Zte hs hf;have hf2:=Zhb hs hf he;obtain⟨m1,m2,m3,m4⟩:=Zuo s;obtain⟨r1,r2,r3,r4,r5,_⟩:=Zak s;obtain⟨k1,k2,k3,k4,k5,k6,k7,k8,k9,k10⟩:=Zct ti fun m hm=>(ms m hm).1;have hc:=Gd s;have hcb:0≤s.calm:=by
  have:=(fitsT_iff.1 hf).2.2.1;rw[wi_iff]at this;exact this.1
 have e1:(Yb s&&Yb (YN s))=true:=by rw[hf,hf2];rfl
 have e2:WO s (YN s) (Yp s)=true:=by
  rw[WO,decide_eq_true (Zgl s),decide_eq_true r1,decide_eq_true m3.symm,decide_eq_true m4.symm];rfl
 have e3:Ud s (YN s) (Yp s)=true:=by
  rw[Ud,Zah,Zah,decide_eq_true m1.symm,decide_eq_true m2.symm];rfl
 have e4:WZ s (Yp s)=true:=by
  rw[WZ,Zah,decide_eq_true k3];by_cases c:(Yp s).mint=0
  ·rw[decide_eq_true c];rfl
  ·have c1:¬((Yp s).mode=3∨(Yp s).mode=4):=fun x=>c (k5 x);have c2:(Yp s).mint=Zdj s.par (Yp s).act:=by
    have e:(Yp s).mint=G8 s.par (WX s) (s.gen+s.mint) s.most (VX s):=(rsT s).mint;rw[r5,e];rw[e]at c;unfold G8 at c ⊢;split
    ·rename_i x;rw[if_pos x]at c;exact absurd rfl c
    ·rfl
   rw[decide_eq_false c,decide_eq_false c1,decide_eq_true c2];rfl
 have hstep:∀(c p a:Int),0≤c→(VE c p a).2=Zyl p a∧(VE c p a).1=Zlb c (VE c p a).2:=fun c p a h0=>by
  unfold VE Zyl Zlb;by_cases x:0<a∧2*a<3*p
  ·rw[if_pos x,decide_eq_true x.1,decide_eq_true x.2];exact⟨rfl,rfl⟩
  ·rw[if_neg x];refine⟨?_,?_⟩
   ·by_cases y:0<a
    ·rw[decide_eq_true y,decide_eq_false (fun z=>x ⟨y,z⟩)];rfl
    ·rw[decide_eq_false y];rfl
   ·show min (max c 0) 1073741823+1=min c 1073741823+1;rw[Int.max_eq_left h0]
 have e5:UW s (YN s) (Yp s)=true:=by
  obtain⟨q1,q2⟩:=hstep s.calm (Jw s) (WX s) hcb;rw[UW,r4,r5,r3,hc,decide_eq_true rfl,decide_eq_true rfl,decide_eq_true q1,decide_eq_true q2];rfl
 have e6:Wv s (YN s) (Yp s)=true:=by
  cases hq:(Yp s).quo with
  | true=>rw[Wv,hq];rfl
  | false =>
   obtain⟨_,g2,g3,g4⟩:=Ydg ti (fun m hm=>(ms m hm).1) hq;have hw:=Ydi ti ms hq;rw[Wv,hq,g2,g3,g4,decide_eq_true rfl,decide_eq_true rfl,Zlr,Zvq,decide_eq_true fun j hj c=>hw j (by omega) c];rfl
 have e7:WG s (YN s)=true:=by
  by_cases c:s.par=(YN s).par
  ·obtain⟨u1,u2⟩:=Ykv ti ms c.symm;have hth:Zts s (YN s)=true:=by
    rw[Zts,decide_eq_true_eq];intro i hi h2 hg;have u:=u2 i hi h2 hg;exact⟨.inl u.s,u.b,u.k⟩
   rw[WG,decide_eq_true c,decide_eq_true u1,hth];rfl
  ·rw[WG,decide_eq_false c];rfl
 rw[YX,if_neg (by rw[e1];decide),if_neg (by rw[e2];decide),if_neg (by rw[e3];decide),if_neg (by rw[e4];decide),if_neg (by rw[e5];decide),if_neg (by rw[e6];decide),if_neg (by rw[e7];decide)]
open Go.RowKit Go.Bl Go.ChangeShapes Go.WideShapes Go.ChangeAt Go.Joins Go.Proofs Go.Proofs.Tryz
section
variable {H:Type} {enc:TypeId×Value→H} {W:World} {base b0:Nat} {spare:Nat→Bool} {held:Bool} {r:Reach} {v:Value} {d:DataW H} {p:List MemPlace}
theorem Yke {cs:List Value}(h:cs.length=14):∃g0 g1 g2 g3 g4 g5 g6 g7 g8 g9 g10 g11 g12 g13:Value,cs=g0::g1::g2::g3::g4::g5::g6::g7::g8::g9::g10::g11::g12::g13::[]:=by
 match cs,h with
 | g0::g1::g2::g3::g4::g5::g6::g7::g8::g9::g10::g11::g12::g13::[],_=>exact⟨g0,g1,g2,g3,g4,g5,g6,g7,g8,g9,g10,g11,g12,g13,rfl⟩
set_option maxRecDepth 100000 in
theorem Zxf (n:Nat)(cs:List Value)(x:DataW H×List MemPlace)(hf:DataW.trod enc prog W base spare held n 55 cs=some x):∃(q:RV) (s:Zf),cs=rpC s q∧Zv (wh W) q s∧Zz s:=by
 obtain⟨xs,m,rfl,_,hl,fldl,fld⟩:=DataW.trod_struct underlying55 hf;rw[show prog.cellsOf 55=14 by kernel_rfl]at hl;have ki:prog.cellsOf 3=1:=by kernel_rfl
 have ku:prog.cellsOf 22=1:=by kernel_rfl
 have sfld:∀i,i<14→(xs[i]?).isSome=true:=fun i hi=>by
  have:xs.length=14:=fldl;simp;omega
 obtain⟨z0,a0,r0⟩:=YI (off:=0) underlying3 ki (fld 0 _ rfl) (sfld 0 (by decide));obtain⟨z1,a1,r1⟩:=YI (off:=1) underlying3 ki (fld 1 _ rfl) (sfld 1 (by decide));obtain⟨z2,a2⟩:=Ylp (off:=2) underlying4 (by kernel_rfl) (fld 2 _ rfl) (sfld 2 (by decide));obtain⟨z3,a3,r3⟩:=YI (off:=3) underlying22 ku (fld 3 _ rfl) (sfld 3 (by decide));obtain⟨z4,a4,r4⟩:=YI (off:=4) underlying22 ku (fld 4 _ rfl) (sfld 4 (by decide));obtain⟨z5,a5,r5⟩:=YI (off:=5) underlying22 ku (fld 5 _ rfl) (sfld 5 (by decide));obtain⟨z6,a6,r6⟩:=YI (off:=6) underlying22 ku (fld 6 _ rfl) (sfld 6 (by decide));obtain⟨z7,a7,r7⟩:=YI (off:=7) underlying22 ku (fld 7 _ rfl) (sfld 7 (by decide));obtain⟨z8,a8,r8⟩:=YI (off:=8) underlying22 ku (fld 8 _ rfl) (sfld 8 (by decide));obtain⟨z9,a9,r9⟩:=YI (off:=9) underlying22 ku (fld 9 _ rfl) (sfld 9 (by decide));obtain⟨_,f0⟩:=JR (off:=10) (by omega) (by kernel_rfl) (fld 10 _ rfl) (sfld 10 (by decide));obtain⟨_,f1⟩:=JR (off:=11) (by omega) (by kernel_rfl) (fld 11 _ rfl) (sfld 11 (by decide));obtain⟨_,f2⟩:=JR (off:=12) (by omega) (by kernel_rfl) (fld 12 _ rfl) (sfld 12 (by decide));obtain⟨_,f3⟩:=JR (off:=13) (by omega) (by kernel_rfl) (fld 13 _ rfl) (sfld 13 (by decide));obtain⟨s0,w0⟩:=Wg (k:=.i64) underlying27 underlying3 (by kernel_rfl) f0;obtain⟨s1,w1⟩:=Wg (k:=.i64) underlying27 underlying3 (by kernel_rfl) f1;obtain⟨s2,w2⟩:=Wg (k:=.i64) underlying27 underlying3 (by kernel_rfl) f2;obtain⟨s3,w3⟩:=Wg (k:=.i64) underlying27 underlying3 (by kernel_rfl) f3;obtain⟨g0,g1,g2,g3,g4,g5,g6,g7,g8,g9,g10,g11,g12,g13,rfl⟩:=Yke hl;simp only[List.drop_succ_cons,List.drop_zero,List.take_succ_cons,List.take_zero,List.getElem?_cons_zero,List.getElem?_cons_succ,List.getElem_cons_succ,List.getElem_cons_zero,Option.some.injEq]at a0 a1 a2 a3 a4 a5 a6 a7 a8 a9 w0 w1 w2 w3
 subst a0;subst a1;subst a2;subst a3;subst a4;subst a5;subst a6;subst a7;subst a8;subst a9;rw[Zbd,Zcv]at r0 r1;rw[Zay,Zau]at r3 r4 r5 r6 r7 r8 r9;refine⟨⟨g10,g11,g12,g13⟩,⟨z0,z1,z2,z3,z4,z5,z6,z7,z8,z9,s0,s1,s2,s3⟩,rfl,⟨w0,w1,w2,w3⟩,⟨?_,?_⟩⟩
 ·intro z hz;simp only[List.mem_cons,List.not_mem_nil,or_false]at hz;rcases hz with rfl|rfl|rfl|rfl|rfl|rfl|rfl
  ·exact r3
  ·exact r4
  ·exact r5
  ·exact r6
  ·exact r7
  ·exact r8
  ·exact r9
 ·intro z hz;simp only[List.mem_cons,List.not_mem_nil,or_false]at hz;rcases hz with rfl|rfl
  ·exact r0
  ·exact r1
set_option maxRecDepth 100000 in
theorem Zjt (hv:Value.okWide prog W r b0 55 v)(h:DataW.Trod enc prog W base spare held 55 v d p):∃q:RV×Zf,v=rpV q.2 q.1∧Zv (wh W) q.1 q.2∧Zz q.2:=by
 obtain⟨cs,rfl,_⟩:=okWide_struct underlying55 hv;obtain⟨f,hf⟩:=h;obtain⟨bv,dd,hc,hd⟩:=Zxf _ _ _ hf;refine⟨(bv,dd),?_,hd⟩;have:cs=(rpC dd bv).toArray:=by
  apply Array.ext'
  simpa [Value.cells] using hc
 rw[this]
end
open Go.RowKit Go.Bl
section
variable {P:Program}
def Yaz (P:Program):Nat→TypeId→Value→Value→Option Bool
 | 0,_,_,_=>none
 | d+1,t,v,u=>match P.underlying t,v,u with
  | some .bool,.bool a,.bool b=>some (a == b)
  | some (.int _),.int k1 a,.int k2 b=>if k1 == k2 then some (a == b) else none
  | some (.struct fs),.agg xs,.agg ys=>if P.stoodInHeld t then none else
   fs.toList.foldr (fun f acc => if f.name == "_" then acc else match Zqf P f.type xs f.offset, Zqf P f.type ys f.offset with
    | some x,some y=>(match Yaz P d f.type x y,acc with
     | some b,some r=>some (b&&r)
     | _,_=>none)
    | _,_=>none) (some true)
  | _,_,_=>none
theorem Zkd:∀ (d:Nat)(t:TypeId)(v u:Value)(b:Bool),Yaz P d t v u=some b→∀(D:Nat)(W:World),(Op.equalIn (D+d) t v u).run P W = .ok b W
 | 0,_,_,_,_,h,_,_=>by cases h
 | d+1,t,v,u,b,h,D,W=>by
  unfold Yaz at h;split at h
  ·rename_i a c hu;injection h with h
   rw[← Nat.add_assoc,run_equalIn_bool W (D+d) t a c hu,h]
  ·rename_i k k1 a k2 c hu;split at h
   ·rename_i hk;have:k1=k2:=by simpa using hk
    subst this;injection h with h
    rw[← Nat.add_assoc,run_equalIn_int W (D+d) t k1 k a c hu,h]
   ·cases h
  ·rename_i fs xs ys hu;split at h
   ·cases h
   ·rename_i hs;have hf:P.fieldsOf t=fs:=by simp [Program.fieldsOf,hu]
    rw[← Nat.add_assoc,run_equalIn_struct W (D+d) t xs ys (by rw[hf];exact hu) (by simpa using hs),hf]
    have key : ∀ (l : List Field) (b : Bool), (l.foldr (fun f acc => if f.name == "_" then acc else match Zqf P f.type xs f.offset, Zqf P f.type ys f.offset with
      | some x,some y=>(match Yaz P d f.type x y,acc with
       | some b,some r=>some (b&&r)
       | _,_=>none)
      | _,_=>none) (some true))=some b→(Op.eqFields (D+d) xs ys l).run P W = .ok b W:=by
     intro l
     induction l with
     | nil =>
      intro b hb;injection hb with hb
      subst hb;simp [Op.eqFields]
     | cons f l ih =>
      intro b hb;rw[List.foldr_cons]at hb;by_cases hn : f.name = "_"
      ·rw[if_pos (by simpa using hn)]at hb;rw[Op.eqFields,if_neg (by simpa using hn)];exact ih b hb
      ·rw[if_neg (by simpa using hn)]at hb;split at hb
       ·rename_i x y hx hy;split at hb
        ·rename_i e r he hr;injection hb with hb
         subst hb;have h1:=Zje hx W;have h2:=Zje hy W;have h3:=Zkd d f.type x y e he D W;have h4:=ih r hr;rw[Op.eqFields,if_pos hn]
         cases e<;>simp [h1,h2,h3,h4]
        ·cases hb
       ·cases hb
    exact key _ b h
  ·cases h
theorem Zno {T:TypeId}{xs ys:Array Value}{b:Bool}(hf:Yaz P 8 T (.agg xs) (.agg ys)=some b)(hg:P.eqGuardType P.depth T=false)(x y:Operand)(K:Value→Prop)(t:Zo K):VW P .neq T x y (.agg xs) (.agg ys) K t=K (.bool (!b)) :=
 Yt (fun W=>by
  simp only[Sem.run_bind,run_eqGuard_agg W .neq T x y _ _ hg,Result.andThen_ok,run_neq_struct,Zkd 8 T (.agg xs) (.agg ys) b hf 9992 W]) K
end
end Go.X

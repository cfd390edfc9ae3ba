/- Lemmas and contracts. Conditions: as each says. -/
import Derived.Test.YtmmfajokfdaokaaGreatQ24
import Derived.Test.YtmmfajokfdaokaaGreatQ37
set_option linter.unusedVariables false
set_option linter.unusedSimpArgs false
set_option maxHeartbeats 12800000
set_option maxRecDepth 20000
namespace Go.X
open Go.RowKit Go.Proofs Go.Bl
variable {L:Own} {h:PH} {K:PK}
theorem oneO (o:Option (Nat×Nat))(n:Nat):(ovs o n).oneCell'=true:=Zyc o n
theorem Ymm (p q:Ze)(x y:Operand)(K:Value→Prop)(t:Zq K):Uj Tryz.prog .neq 24 x y (VQ p) (VQ q) K t=K (.bool (!decide (p=q))):=by
 have e:decide (p=q)=decide (Yw p++Yk p=Yw q++Yk q):=by
  rw[decide_eq_decide];exact⟨fun h=>by rw[h],Zwj⟩
 rw[e];exact Zjt (T:=24) (ks:=parK) (by kernel_rfl) (by kernel_rfl) (by kernel_rfl) (by kernel_rfl) (Yw p++Yk p) (Yw q++Yk q) rfl rfl x y K t
theorem Zt.mono {s:Zf}{D D':Nat}(h:Zt s D)(hd:D≤D'):Zt s D' :=
 ⟨h.r,h.ok,h.ep,h.be,h.ml,h.pl,h.en,h.ex,h.dd,Nat.le_trans h.dn hd,h.oo,h.on,h.mm,h.mn,h.mon,h.top⟩
theorem lv_ml {s:Zf}{t:Int}:(lvS s t).members.length=s.members.length:=by
 have:∀(W:List Int) (x:List Zc×List Zi) k,(lvK t W x k).1.length=x.1.length:=fun W x k=>by
  induction k with
  | zero=>rfl
  | succ k ih=>rw[lvK,Zeo];simp only[List.length_set];exact ih
 exact this _ _ _
structure Fr (s S:Zf):Prop where
 par:S.par=s.par
 ep:S.ep=s.ep
 k:S.marks=s.marks
 r:S.ring=s.ring
 t:S.motions=s.motions
 o:S.pool=s.pool
 e:S.entry=s.entry
 l:S.members.length=s.members.length
theorem Fr.next {s S S':Zf}(h:Fr s S)(h2:Fr S S'):Fr s S':=⟨h2.par.trans h.par,h2.ep.trans h.ep,h2.k.trans h.k,h2.r.trans h.r,h2.t.trans h.t,h2.o.trans h.o,h2.e.trans h.e,h2.l.trans h.l⟩
theorem Yoz (s:Zf):Fr s (wgS s):=⟨rfl,rfl,rfl,rfl,rfl,rfl,rfl,VB _ _ _⟩
theorem Ynz (s:Zf)(r:Zk):Fr s (mtS s r):=⟨rfl,rfl,rfl,rfl,rfl,rfl,rfl,by
 have:∀(p:Ze) (W:List Nat) (P:List Int) (x:List Zc×List Int) k,(mtK p W P x k).1.length=x.1.length:=fun p W P x k=>by
  induction k with
  | zero=>rfl
  | succ k ih=>rw[mtK,Ju];simp only[List.length_set];exact ih
 exact this _ _ _ _ _⟩
theorem Yrd (s:Zf)(r:Zk):Fr s (fnS s r):=⟨rfl,rfl,rfl,rfl,rfl,rfl,rfl,VB _ _ _⟩
theorem Yhr (s:Zf)(t:Int):Fr s (ejS s t s.members.length):=⟨rfl,rfl,rfl,rfl,rfl,rfl,rfl,Vd _ _ _⟩
theorem Yqp (s:Zf)(t:Int):Fr s (lvS s t):=⟨rfl,rfl,rfl,rfl,rfl,rfl,rfl,lv_ml⟩
theorem Wdb (s:Zf)(r:Zk)(t:Int):(enS s r t).par=s.par∧(enS s r t).ep=s.ep∧(enS s r t).marks=s.marks∧(enS s r t).ring=s.ring∧(enS s r t).motions=s.motions:=by
 unfold enS;split
 ·exact⟨rfl,rfl,rfl,rfl,rfl⟩
 ·exact⟨rfl,rfl,rfl,rfl,rfl⟩
theorem Zag {o:Option (Nat×Nat)}{n:Nat}(ho:okO o n):n≤9223372036854775807:=by
 cases o with
 | none=>have:n=0:=ho;omega
 | some p=>have:=ho.2;have:=ho.1;simp only[maxLen]at *;omega
theorem Zxc {s:Zf}(v:SV)(hs:Zs h v s)(few:Zu s)(fd:s.dues.length≤29000)(hf:YQ s=true)(he:s.ep<1073741824)(hA1:Gg s≤140737488355328)(hA8:Gg (tk8 s).1≤18446744073709551615)
  (hk:∀h' u q,PH.le h h'→Zs h' u (UC s)→ZH h' q (Zcz s)→K (.tuple #[stV (UC s) u,rpV (Zcz s) q,.int .i64 0]) L h') :
  Zb Tryz.prog 19 [stV s v] L h K:=by
 have hv0:=hs;have ti:Zt s 29000:=Yje hs hf he fd;obtain⟨pa,pc,ma,mc,ea,ec,xa,xc,oa,oc,da,dc,ta,tc,ka,kc,ra,rc,rfl⟩:=hs.slices;have fewS:ZJ s:=by
  have f1:=few.p;have f2:=few.m;have f3:=few.e;have f4:=few.x;have f5:=few.o;have f6:=few.d;have f7:=few.t;have f8:=few.r
  constructor<;>omega
 have hpc:=Ys ti.r;have hep:=ti.ep;have hml:=ti.ml;have hw:0≤s.par.wait∧s.par.wait≤1000:=by omega
 have ht:0≤min (s.ep+s.par.wait) 2147483647∧min (s.ep+s.par.wait) 2147483647≤2147483647:=by omega
 obtain⟨t,hte⟩:∃t,t=min (s.ep+s.par.wait) 2147483647:=⟨_,rfl⟩
 rw[← hte]at ht;have hact:0≤Gg s:=by have:=GR (ks:=s.marks) ti.be.m;show 0≤Zen s.members;omega
 obtain⟨S2,hS2⟩:∃x,x=wgS s:=⟨_,rfl⟩
 obtain⟨R2,hR2⟩:∃x,x=wgR s (r0P s):=⟨_,rfl⟩
 have e2:tk2 s=(S2,R2):=by rw[hS2,hR2];rfl
 have ti2:Zt S2 29000:=hS2 ▸ Yqd ti;have f2:Fr s S2:=hS2 ▸ Yoz s;have ra2:0≤R2.act∧R2.act≤18446744073709551615:=by rw[hR2];show 0≤Gg s∧Gg s≤_;omega
 have rp2:R2.paid=0:=by rw[hR2];rfl
 obtain⟨S3,hS3⟩:∃x,x=mtS S2 R2:=⟨_,rfl⟩
 obtain⟨R3,hR3⟩:∃x,x=mtR S2 R2:=⟨_,rfl⟩
 have e3:tk3 s=(S3,R3):=by rw[hS3,hR3];show (mtS (tk2 s).1 (tk2 s).2,mtR (tk2 s).1 (tk2 s).2)=_;rw[e2]
 have ti3:Zt S3 29000:=hS3 ▸ Yop ti2 ra2;have f3:Fr s S3:=f2.next (hS3 ▸ Ynz S2 R2);have rb3:R3.burned=0:=by rw[hR3,hR2];rfl
 have rf3:R3.fees=0:=by rw[hR3,hR2];rfl
 obtain⟨S4,hS4⟩:∃x,x=fnS S3 R3:=⟨_,rfl⟩
 obtain⟨R4,hR4⟩:∃x,x=fnR S3 R3 S3.members.length:=⟨_,rfl⟩
 have e4:tk4 s=(S4,R4):=by rw[hS4,hR4];show (fnS (tk3 s).1 (tk3 s).2,fnR (tk3 s).1 (tk3 s).2 (tk3 s).1.members.length)=_;rw[e3]
 have ti4:Zt S4 29000:=hS4 ▸ Ymu ti3 rb3;have f4:Fr s S4:=f3.next (hS4 ▸ Yrd S3 R3);have p4:S4.purses=S3.purses:=by rw[hS4];rfl
 have d4:S4.dues=s.dues:=by rw[hS4,hS3,hS2];rfl
 have x4:S4.exit=s.exit:=by rw[hS4,hS3,hS2];rfl
 have ro4:R4.out=[]∧R4.left=[]∧R4.started=[]∧R4.done=[]:=by rw[hR4,hR3,hR2];exact⟨rfl,rfl,rfl,rfl⟩
 obtain⟨S5,hS5⟩:∃x,x=ejS S4 t S4.members.length:=⟨_,rfl⟩
 obtain⟨R5,hR5⟩:∃x,x=ejR S4 R4 S4.members.length:=⟨_,rfl⟩
 have e5:tk5 s=(S5,R5):=by rw[hS5,hR5];show Ynl (atP s) (tk4 s)=_;rw[e4,show atP s=t from hte.symm];rfl
 have f5:Fr s S5:=f4.next (hS5 ▸ Yhr S4 t);have ti5:Zt S5 29128:=by have:=Zkb ti4 ht (Nat.le_refl S4.members.length);rw[hS5];exact this.mono (by have:=f4.l;omega)
 have p5:S5.purses=S4.purses:=by rw[hS5];rfl
 have ro5:R5.left=[]∧R5.started=[]∧R5.done=[]∧R5.out=ouN S4.par S4.members S4.members.length:=by
  rw[hR5];refine⟨ro4.2.1,ro4.2.2.1,ro4.2.2.2,?_⟩;show R4.out++_=_;rw[ro4.1];rfl
 have ol5:R5.out.length≤128:=by rw[ro5.2.2.2];have:=Zhs S4.par S4.members S4.members.length;have:=f4.l;omega
 have ob5:∀z∈R5.out,0≤z∧z<((128:Nat):Int):=by rw[ro5.2.2.2];intro z hz;have:=Whh S4.par S4.members S4.members.length z hz;have:=f4.l;omega
 obtain⟨S7,hS7⟩:∃x,x=lvS S5 t:=⟨_,rfl⟩
 obtain⟨R7,hR7⟩:∃x,x=lvR S5 R5:=⟨_,rfl⟩
 have e7:tk7 s=(S7,R7):=by rw[hS7,hR7];show (lvS (tk5 s).1 (atP s),lvR (tk5 s).1 (tk5 s).2)=_;rw[e5,show atP s=t from hte.symm]
 have ti7:Zt S7 29192:=hS7 ▸ Yys ti5 ht;have f7:Fr s S7:=f5.next (hS7 ▸ Yqp S5 t);have ro7:R7.out=R5.out∧R7.left=lvW S5∧R7.started=[]∧R7.done=[]:=by rw[hR7];exact⟨rfl,rfl,ro5.2.1,ro5.2.2.1⟩
 obtain⟨S8,hS8⟩:∃x,x=enS S7 R7 t:=⟨_,rfl⟩
 obtain⟨R8,hR8⟩:∃x,x=enR S7 R7 t:=⟨_,rfl⟩
 have e8:tk8 s=(S8,R8):=by rw[hS8,hR8];show (enS (tk7 s).1 (tk7 s).2 (atP s),enR (tk7 s).1 (tk7 s).2 (atP s))=_;rw[e7,show atP s=t from hte.symm]
 have ti8:Zt S8 29256:=hS8 ▸ Ywt ti7 R7 ht;obtain⟨a8,b8,c8,d8,g8⟩:=Wdb S7 R7 t;rw[← hS8]at a8 b8 c8 d8 g8;have ro8:R8.left=lvW S5∧R8.done=[]∧(∀z∈R8.out,0≤z∧z<((128:Nat):Int))∧(∀z∈R8.started,0≤z∧z<((128:Nat):Int))∧R8.out.length≤300∧R8.started.length≤300:=by
  rw[hR8];unfold enR;split
  ·have hx:=(Yrt ti7).1;have hwl:=(en_w ti7).1
   obtain⟨u1,u2,u3,u4⟩:=st_b (p:=S7.par) (t:=t) (n:=128) (by decide) (enW S7) (x:=⟨(enX S7).ms,S7.dues,S7.exit,R7.out,R7.started⟩) (fun z hz=>by
    have h1:=Uv hx.e (List.mem_of_mem_take hz);have h2:(enX S7).ms.length≤128:=hx.l1
    omega) (by rw[ro7.1];exact ob5) (fun z hz=>by rw[ro7.2.2.1]at hz;cases hz) (enW S7).length (Nat.le_refl _)
   simp only[ro7.1,ro7.2.2.1,List.length_nil]at u3 u4;refine⟨ro7.2.1,ro7.2.2.2,u1,u2,?_,?_⟩
   ·show (enY S7 R7 t).out.length≤300;have:(enY S7 R7 t).out.length≤R5.out.length+(enW S7).length:=by rw[enY,ro7.1,ro7.2.2.1];exact u3
    omega
   ·show (enY S7 R7 t).go.length≤300;have:(enY S7 R7 t).go.length≤0+(enW S7).length:=by rw[enY,ro7.1,ro7.2.2.1];exact u4
    omega
  ·exact⟨ro7.2.1,ro7.2.2.2,by rw[ro7.1];exact ob5,(fun z hz=>by rw[ro7.2.2.1]at hz;cases hz),by rw[ro7.1];omega,by rw[ro7.2.2.1];simp⟩
 obtain⟨S9,hS9⟩:∃x,x=moS S8 R8:=⟨_,rfl⟩
 obtain⟨R9,hR9⟩:∃x,x=moR S8 R8:=⟨_,rfl⟩
 have e9:tk9 s=(S9,R9):=by rw[hS9,hR9];show (moS (tk8 s).1 (tk8 s).2,moR (tk8 s).1 (tk8 s).2)=_;rw[e8]
 have ti9:Zt S9 29256:=hS9 ▸ Ymn ti8 R8 (Nat.le_refl _);rw[e8]at hA8;simp only at hA8;refine Z4 Tryz.func19 rfl (rs:=[_,_,_]) rfl rfl ZY (by kernel_rfl) rfl rfl fun ap nd=>?_;clear ap nd;refine xx ?_;refine Z6 fun b1 nb1 zb1=>?_;(try simp only[ZU]at nb1);refine xx ?_;refine Z6 fun b2 nb2 zb2=>?_;(try simp only[ZU]at nb2);have n21:=nb2.1;refine xx ?_;refine Z6 fun b3 nb3 zb3=>?_;(try simp only[ZU]at nb3);have n32:=nb3.1;have n31:=nb3.2.1;clear nb1 nb2 nb3;refine xx ?_;refine U8 (s:=s) ⟨.slice pa s.purses.length pc,.slice ma s.members.length mc,.slice ea s.entry.length ec,.slice xa s.exit.length xc,.slice oa s.pool.length oc,.slice da s.dues.length dc,.slice ta s.motions.length tc,.slice ka s.marks.length kc,.slice ra s.ring.length rc⟩ hs fewS ?_;rw[hf];refine xx ?_;refine Yr (.tk 2 (.tk 5 (.tk 6 (.tkl 0 (.tkl 3 (.tk 4 (.tkl 7 (.o1 1 (.tk 8 (.o1 9 (.tk 10 (.fin)) (.nil))) (.nil))))))))) (by kernel_rfl) (by kernel_rfl) _ (Za.refl _ _) ?_;refine xx ?_;refine Zvm (s:=s) ⟨.slice pa s.purses.length pc,.slice ma s.members.length mc,.slice ea s.entry.length ec,.slice xa s.exit.length xc,.slice oa s.pool.length oc,.slice da s.dues.length dc,.slice ta s.motions.length tc,.slice ka s.marks.length kc,.slice ra s.ring.length rc⟩ hs few fun h1 u om oe ox le1 okm oke okx i1=>?_
 first
 | refine xkp ((Za.oent _ _ _ _ _ _).trans ((Za.oent _ _ _ _ _ _).trans ((Za.oent _ _ _ _ _ _).trans (Za.forget le1)))) ?_
 | skip
 refine xx ?_;refine Z6 fun b5 nb5 zb5=>?_;(try simp only[ZU]at nb5);have n5:=YN (YN (YN nb5));simp only[ZU]at n5;have n53:=n5.1;have n52:=n5.2.1;have n51:=n5.2.2.1;clear nb5 n5;obtain⟨up,um,ue,ux,uo,ud,ut,uk,ur⟩:=u;obtain⟨iok,ip,_,_,_,_,io,ioo,idd,iddo,it,ik,ir⟩:=i1;simp only[Yqx]at ip io ioo idd iddo it ik ir;obtain⟨upa,upc,rfl,_⟩:=ip.open;obtain⟨uoa,uoc,rfl,_⟩:=io.open;obtain⟨uda,udc,rfl,_⟩:=idd.open;obtain⟨uka,ukc,rfl,_⟩:=ik.open;obtain⟨uq,it1,it2,it3⟩:=it;obtain⟨uta,utc,rfl,_⟩:=it1.open;obtain⟨uqr,ir1,ir2⟩:=ir;obtain⟨ura,urc,rfl,_⟩:=ir1.open;have hqm:uq.length=s.motions.length:=by rw[← it2,List.length_map]
 have hqr:uqr.length=s.ring.length:=by rw[← ir2,UB]
 rw[hqm]at it1 ⊢;rw[hqr]at ir1 ⊢;refine xx ?_;refine xkp ((Za.tail _ _ _).trans ((Za.oent _ _ _ _ _ _).trans ((Za.oent _ _ _ _ _ _).trans ((Za.oent _ _ _ _ _ _).trans (Za.forget le1))))) ?_;refine xx ?_;obtain⟨N,hN⟩:∃N,N=s.members.length:=⟨_,rfl⟩
 obtain⟨V0,hV0⟩:∃V0:SV,V0=⟨.slice upa s.purses.length upc,ovs om s.members.length,ovs oe s.entry.length,ovs ox s.exit.length,.slice uoa s.pool.length uoc,.slice uda s.dues.length udc,.slice uta s.motions.length utc,.slice uka s.marks.length ukc,.slice ura s.ring.length urc⟩:=⟨_,rfl⟩
 refine Zb.fin (Zb.weaken (Za.perm _ Wbj) (Ztd (s:=s) (v:=⟨.slice upa s.purses.length upc,ovs om s.members.length,ovs oe s.entry.length,ovs ox s.exit.length,.slice uoa s.pool.length uoc,.slice uda s.dues.length udc,.slice uta s.motions.length utc,.slice uka s.marks.length ukc,.slice ura s.ring.length urc⟩) (r:=r0P s) (q:=⟨.slice none 0 0,.slice none 0 0,.slice none 0 0,.slice none 0 0⟩) (w:=s.par.wait) (om:=om) ti hA1 ik rfl okm fun h2 le2=>ZO ?_));rw[← hS2,← hR2];refine xx ?_;have one:∀(a b c d e:Value),a.oneCell'=true→b.oneCell'=true→c.oneCell'=true→d.oneCell'=true→e.oneCell'=true→∀(n1 n2 n3:Nat) (f:Value),f.oneCell'=true→Ypg ⟨a,ovs om n1,ovs oe n2,ovs ox n3,b,c,d,e,f⟩:=fun a b c d e ha hb hc hd he n1 n2 n3 f hf=>⟨ha,oneO _ _,oneO _ _,oneO _ _,hb,hc,hd,he,hf⟩
 have p2:S2.purses=s.purses:=by rw[hS2];rfl
 refine Yeq (s:=S2) (v:=⟨.slice upa s.purses.length upc,ovs om s.members.length,ovs oe s.entry.length,ovs ox s.exit.length,.slice uoa s.pool.length uoc,.slice uda s.dues.length udc,.slice uta s.motions.length utc,.slice uka s.marks.length ukc,.slice ura s.ring.length urc⟩) (om:=om) ti2 ra2 rp2 (one _ _ _ _ _ rfl rfl rfl rfl rfl _ _ _ _ rfl) (by rw[p2];exact ip.up le2) (by rw[f2.k];exact ik.up le2) (by rw[f2.l]) (by rw[f2.l];exact okm) fun h3 pv3 le3 i3=>?_;rw[← hS3]at i3;rw[← hS3,← hR3];obtain⟨pa3,pc3,rfl,_⟩:=i3.open;have le13:=le2.trans le3;refine xx ?_;refine Zuj (s:=S3) (v:=⟨.slice pa3 S3.purses.length pc3,ovs om s.members.length,ovs oe s.entry.length,ovs ox s.exit.length,.slice uoa s.pool.length uoc,.slice uda s.dues.length udc,.slice uta s.motions.length utc,.slice uka s.marks.length ukc,.slice ura s.ring.length urc⟩) (om:=om) ti3 rb3 rf3 (one _ _ _ _ _ rfl rfl rfl rfl rfl _ _ _ _ rfl) (by rw[f3.k];exact ik.up le13) (by rw[f3.l]) (by rw[f3.l];exact okm) ?_;rw[← hS4,← hR4,← x4];refine xx ?_;refine Zb.fin (Zb.weaken (Za.perm _ Yls) (Zgv (s:=S4) (v:=⟨.slice pa3 S3.purses.length pc3,ovs om s.members.length,ovs oe s.entry.length,ovs ox S4.exit.length,.slice uoa s.pool.length uoc,.slice uda s.dues.length udc,.slice uta s.motions.length utc,.slice uka s.marks.length ukc,.slice ura s.ring.length urc⟩) (om:=om) (oo:=none) (ox:=ox) ti4 (by decide) (by rw[d4];exact idd.up le13) (by rw[f4.l]) (by rw[f4.l];exact okm) hw rfl (by rw[x4];exact okx) rfl (by rw[ro4.1];rfl) (by rw[ro4.1];simp) fun h5 dv5 oo5 le5 i5 ok5=>ZO ?_));rw[f4.ep,← hte,← hS5]at i5;rw[← hR5]at ok5;rw[f4.ep,← hte,← hS5,← hR5];obtain⟨da5,dc5,rfl,_⟩:=i5.open;have le15:=le13.trans le5;have okx5:okO ox S5.exit.length:=Zru okx (by rw[hS5,← x4];exact Ziq _ _ _ _);refine xx ?_
 refine Zb.fin (Zb.weaken (Za.perm _ Wbz) (Zsr (s:=S5) (v:=⟨.slice pa3 S3.purses.length pc3,ovs om s.members.length,ovs oe s.entry.length,ovs ox S5.exit.length,.slice uoa s.pool.length uoc,.slice da5 S5.dues.length dc5,.slice uta s.motions.length utc,.slice uka s.marks.length ukc,.slice ura s.ring.length urc⟩) (om:=om) (ox:=ox) ti5 (by decide) hw (by rw[p5,p4];exact i3.up le5) i5 (by rw[f5.l]) (by rw[f5.l];exact okm) rfl okx5 fun h7 xo pv7 dv7 lv7 le7 okx7 i7p i7d i7l=>ZO ?_));rw[f5.ep,← hte,← hS7]at okx7 i7p i7d;rw[f5.ep,← hte,← hS7,← hR7];obtain⟨pa7,pc7,rfl,_⟩:=i7p.open;obtain⟨da7,dc7,rfl,_⟩:=i7d.open;obtain⟨la7,lc7,rfl,_⟩:=i7l.open;have le17:=le15.trans le7;refine xx ?_;rw[← f7.e,← ro7.1];refine Zb.fin (Zb.weaken (Za.perm _ Wck) (Zuw (s:=S7) (v:=⟨.slice pa7 S7.purses.length pc7,ovs om s.members.length,ovs oe S7.entry.length,ovs xo S7.exit.length,.slice uoa s.pool.length uoc,.slice da7 S7.dues.length dc7,.slice uta s.motions.length utc,.slice uka s.marks.length ukc,.slice ura s.ring.length urc⟩) (om:=om) (oe:=oe) (os:=none) (oo:=oo5) (ox:=xo) (r:=R7) ti7 (by decide) hw (by rw[ro7.1];omega) (by rw[ro7.2.2.1];simp) i7p i7d (by rw[f7.o];exact io.up le17) (by rw[f7.l]) (by rw[f7.l];exact okm) rfl (by rw[f7.e];exact oke) rfl okx7 rfl (by rw[ro7.1];exact ok5) rfl (by rw[ro7.2.2.1];rfl) fun h8 pv8 dv8 ov8 om8 oe8 os8 oo8 le8 i8p i8d i8o okm8 oke8 oks8 oko8 okx8=>ZO ?_));rw[f7.ep,← hte,← hS8]at i8p i8d i8o okm8 oke8 okx8;rw[f7.ep,← hte,← hR8]at oks8 oko8;rw[f7.ep,← hte,← hS8,← hR8];obtain⟨pa8,pc8,rfl,_⟩:=i8p.open;obtain⟨da8,dc8,rfl,_⟩:=i8d.open;obtain⟨oa8,oc8,rfl,_⟩:=i8o.open;have le18:=le17.trans le8;refine xx ?_
 refine Zb.fin (Zb.weaken (Za.perm _ Yls) (Zb.apn (Ztx (s:=S8) (v:=⟨.slice pa8 S8.purses.length pc8,ovs om8 S8.members.length,ovs oe8 S8.entry.length,ovs xo S8.exit.length,.slice oa8 S8.pool.length oc8,.slice da8 S8.dues.length dc8,.slice uta s.motions.length utc,.slice uka s.marks.length ukc,.slice ura s.ring.length urc⟩) (om:=om8) (od:=none) (r:=R8) ti8 hA8 (by rw[ro8.2.1];simp) i8p ⟨uq,it1.up le18,it2.trans (g8.trans f7.t).symm,fun x hx=>(it3 x hx).up le18⟩ rfl okm8 rfl (by rw[ro8.2.1];rfl) fun h9 pv9 tv9 od9 le9 i9p i9t okd9 ap nd=>⟨_,_,Za.perm _ Yxc,?_⟩)));have hb5:h9 b5=noC:=ap.1;obtain⟨hb3,hb2,hb1,_⟩:=Ap.oent (Ap.oent (Ap.oent (Ap.oent (Ap.oent (Ap.oent ap.2)))));simp only at hb3 hb2 hb1;clear ap nd;rw[← hS9]at i9p i9t;rw[← hR9]at okd9;rw[← hS9,← hR9];have m9:S9.members=S8.members:=by rw[hS9];rfl
 have en9:S9.entry=S8.entry:=by rw[hS9];rfl
 have x9:S9.exit=S8.exit:=by rw[hS9];rfl
 have d9:S9.dues=S8.dues:=by rw[hS9];rfl
 have o9:S9.pool=S8.pool:=by rw[hS9];rfl
 have k9:S9.marks=s.marks:=by rw[hS9];exact c8.trans f7.k
 have r9:S9.ring=s.ring:=by rw[hS9];exact d8.trans f7.r
 have ep9:S9.ep=s.ep:=by rw[hS9];exact b8.trans f7.ep
 have ro9:R9.out=R8.out∧R9.left=R8.left∧R9.started=R8.started:=by rw[hR9];exact⟨rfl,rfl,rfl⟩
 have dn9:(∀z∈R9.done,0≤z∧z<((128:Nat):Int)):=by
  rw[hR9];have hmn:=ti8.mn;have hL:(moL S8).length=S8.motions.length:=List.length_map _;exact Wbk (by decide) (fun z hz=>by have:=(Zrx (s:=S8) R8).2 z hz;omega) (fun z hz=>by rw[ro8.2.1]at hz;cases hz) _ (Nat.le_refl _)
 rw[← m9]at okm8;rw[← en9]at oke8;rw[← x9]at okx8;rw[← ro9.1]at oko8;rw[← ro9.2.2]at oks8;rw[← m9,← en9,← x9,← ro9.1,← ro9.2.2];obtain⟨pa9,pc9,rfl,_⟩:=i9p.open;obtain⟨q9,i9t1,i9t2,i9t3⟩:=i9t;obtain⟨ta9,tc9,rfl,_⟩:=i9t1.open;have le19:=le18.trans le9;have i8d9:Zh YT 3 h9 (.slice da8 S8.dues.length dc8) S9.dues:=by rw[d9];exact i8d.up le9
 have i8o9:Zh UY 4 h9 (.slice oa8 S8.pool.length oc8) S9.pool:=by rw[o9];exact i8o.up le9
 refine xx ?_;refine Yr (.tk 0 (.tk 1 (.tk 2 (.tk 3 (.tk 5 (.tkl 4 (.tkl 6 (.tk 7 (.fin))))))))) (by kernel_rfl) (by kernel_rfl) _ (Za.refl _ _) ?_;simp -dsimp -implicitDefEqProofs (disch:=first|with_reducible assumption|omega) [go_sem,Ymm];refine Vi (fun c=>?_) (fun c=>?_)
 ·have e10:J8 s=(S9,R9):=by rw[J8,e9,if_pos c]
  have eT:UC s=seS S9:=by rw[UC,e10]
  have eR:Zcz s=R9:=by rw[Zcz,e10]
  have tiE:Zt S9 29400:=ti9.mono (by decide);have iP:=i9p;have iD:=i8d9;have kE:=k9;have rE:=r9;have mE:S9.motions=S9.motions:=rfl;have oE:S9.pool=S9.pool:=rfl;have nE:S9.entry=S9.entry:=rfl;have okmE:=okm8;have okxE:=okx8;have okoE:=oko8;have obE:∀z∈R9.out,0≤z∧z<((128:Nat):Int):=by rw[ro9.1];exact ro8.2.2.1
  have olE:R9.out.length≤1000:=by rw[ro9.1];omega
  have leE:=le19;have leE9:=PH.le_refl h9;have lE:R9.left=lvW S5∧R9.started=R9.started∧R9.done=R9.done:=⟨ro9.2.1.trans ro8.1,rfl,rfl⟩
  refine xx ?_;have ml10:S9.members.length≤128:=tiE.ml;have lenS:(seS S9).members.length=S9.members.length:=Vd _ _ _;refine Zb.fin (Zb.weaken (Za.perm _ Ykx) (Zb.apn (Zeu (s:=S9) (v:=⟨.slice pa9 S9.purses.length pc9,ovs om8 S9.members.length,ovs oe8 S9.entry.length,ovs xo S9.exit.length,.slice oa8 S8.pool.length oc8,.slice da8 S8.dues.length dc8,.slice ta9 q9.length tc9,.slice uka s.marks.length ukc,.slice ura s.ring.length urc⟩) (om:=om8) (r:=R9) (q:=⟨ovs oo8 R9.out.length,.slice la7 (lvW S5).length lc7,ovs os8 R9.started.length,ovs od9 R9.done.length⟩) tiE (by rw[kE];exact ik.up leE) ⟨uqr,ir1.up leE,ir2.trans rE.symm⟩ (by rw[rE];exact few.r) (by rw[rE];exact few.b) (by rw[kE];exact few.k) rfl okmE fun hz kvz rvz lez iz1 iz2 ap nd=>?_)));obtain⟨kza,kzc,rfl,_⟩:=iz1.open;obtain⟨qz,z1,z2⟩:=iz2;obtain⟨rza,rzc,rfl,_⟩:=z1.open;have ap:=Ap.perm Zha ap;have nd:=Nd.perm Zha nd;have eln:=V8 tiE.en;have elx:=V8 tiE.ex;obtain⟨g1,l1,dr1,sl1,ap,nd⟩:=Jk (n:=(seS S9).members.length) (by rw[lenS];exact okmE) (Z3 Yb _) (by omega) ap nd;obtain⟨g2,l2,dr2,sl2,ap,nd⟩:=Jk (n:=R9.out.length) (sz:=1) okoE (by simp) (by omega) ap nd;obtain⟨g3,l3,dr3,sl3,ap,nd⟩:=Jk (n:=S9.exit.length) (sz:=1) okxE (by simp) (by omega) ap nd;obtain⟨g4,l4,dr4,sl4,ap,nd⟩:=Jk (n:=R9.done.length) (sz:=1) okd9 (by simp) (Zag okd9) ap nd;obtain⟨g5,l5,dr5,sl5,ap,nd⟩:=Jk (n:=S9.entry.length) (sz:=1) oke8 (by simp) (Zag oke8) ap nd;obtain⟨g6,l6,dr6,sl6,ap,nd⟩:=Jk (n:=R9.started.length) (sz:=1) oks8 (by simp) (Zag oks8) ap nd;refine⟨_,_,(Za.perm _ Zha).trans (dr1.trans (dr2.trans (dr3.trans (dr4.trans (dr5.trans dr6))))),?_⟩;obtain⟨hc5,hc3,hc2,hc1,_⟩:=ap;simp only at hc5 hc3 hc2 hc1;clear nd dr1 dr2 dr3 dr4 dr5 dr6;have m56:=l5.trans l6;have m46:=l4.trans m56;have m36:=l3.trans m46;have m26:=l2.trans m36;have mz6:=lez.trans (l1.trans m26)
  have hIS:Zs g6 ⟨.slice pa9 S9.purses.length pc9,ovs om8 S9.members.length,ovs oe8 S9.entry.length,ovs xo S9.exit.length,.slice oa8 S8.pool.length oc8,.slice da8 S8.dues.length dc8,.slice ta9 q9.length tc9,.slice kza (List.replicate 16 (0:Int)).length kzc,.slice rza qz.length rzc⟩ (UC s):=by
   rw[eT];have hn:=tiE.ok.n;have hp1:=tiE.ep;simp only[List.forall_mem_cons]at hn;refine⟨⟨tiE.ok.p,tiE.ok.u,?_⟩,iP.up mz6,?_,?_,?_,?_,?_,fun x hx=>(tiE.oo x hx).1,iD.up mz6,fun x hx=>(tiE.dd x hx).1,⟨q9,i9t1.up (leE9.trans mz6),i9t2.trans mE.symm,fun x hx=>(i9t3 x hx).up (leE9.trans mz6)⟩,iz1.up (l1.trans m26),?_⟩
   ·show ∀z∈[S9.ep+1,S9.calm],_;simp only[List.forall_mem_cons];exact⟨by omega,hn.2⟩
   ·have:=Zh.pub (f:=YK) (w:=6) (l:=(seS S9).members) (o:=om8) Yb (sl1.up m26);rw[lenS]at this;exact this
   ·exact Zmj Zg (fun m hm=>Zpe tiE.ok.p tiE.r hm) tiE.be.m _ (Nat.le_refl _)
   ·exact J6 (st:=1) (by show Gd S9.members S9.entry 1;exact tiE.en) ml10 (by show Sl _ _ S9.entry.length 1 (S9.entry.map _);rw[nE];exact sl5.up l6)
   ·exact J6 (st:=3) (by show Gd S9.members S9.exit 3;exact tiE.ex) ml10 (sl3.up m46)
   ·show Zh UY 4 g6 _ S9.pool;rw[oE];exact i8o9.up (leE9.trans mz6)
   ·exact⟨qz,z1.up (l1.trans m26),z2⟩
  have hRP:ZH g6 ⟨ovs oo8 R9.out.length,.slice la7 (lvW S5).length lc7,ovs os8 R9.started.length,ovs od9 R9.done.length⟩ (Zcz s):=by
   rw[eR];refine⟨Ytv (sl2.up m36) fun z hz=>by have:=obE z hz;omega,by rw[lE.1];exact i7l.up ((le8.trans (le9.trans leE9)).trans mz6),?_,?_⟩
   ·rw[lE.2.1];exact Ytv sl6 fun z hz=>by have:=ro8.2.2.2.1 z (by rw[← ro9.2.2];exact hz);omega
   ·rw[lE.2.2];exact Ytv (sl4.up m56) fun z hz=>by have:=dn9 z hz;omega
  have hk:=hk g6 _ _ (le1.trans (leE.trans mz6)) hIS hRP;rw[eT,eR]at hk;refine xx ?_;refine Yr (.tk 0 (.tk 1 (.tk 2 (.tk 4 (.tk 5 (.tk 6 (.tkl 3 (.o1 7 (.o2 8 (.o2 9 (.tk 10 (.fin)) (.nil)) (.nil)) (.o2 8 (.o1 7 (.o2 9 (.tk 10 (.fin)) (.nil)) (.nil)) (.nil)))))))))) (by kernel_rfl) (by kernel_rfl) _ (Za.refl _ _) ?_
  repeat' first
   | with_reducible refine YF ?_ ?_
   | simp -dsimp -implicitDefEqProofs (disch:=first|with_reducible assumption|omega) [go_sem]
   | fail
  all_goals exact ZP (ZP (ZP (ZP (ZO hk))))
 ·have e10:J8 s=Ynl t (ajS S9,R9):=by rw[J8,e9,if_neg c,show atP s=t from hte.symm]
  refine xx ?_;refine Zb.fin (Zb.weaken (Za.perm _ permT5) (Zpo (s:=S9) (v:=⟨.slice pa9 S9.purses.length pc9,ovs om8 S9.members.length,ovs oe8 S9.entry.length,ovs xo S9.exit.length,.slice oa8 S8.pool.length oc8,.slice da8 S8.dues.length dc8,.slice ta9 q9.length tc9,.slice uka s.marks.length ukc,.slice ura s.ring.length urc⟩) (om:=om8) (oo:=oo8) (ox:=xo) (r:=R9) (q:=⟨ovs oo8 R9.out.length,.slice la7 (lvW S5).length lc7,ovs os8 R9.started.length,ovs od9 R9.done.length⟩) ti9 (by decide) i9p i8d9 rfl okm8 hw rfl okx8 rfl oko8 (by rw[ro9.1];omega) fun h10 pv10 d10 oo10 le10 i10p i10d ok10=>⟨_,_,Za.perm _ permT5.symm,?_⟩));rw[ep9,← hte]at i10d ⊢;have tiE:Zt (ejS (ajS S9) t (ajS S9).members.length) 29400:=by
   have h1:Zt (ajS S9) 29256:=Zyv ti9 (Nat.le_refl _);exact(Zkb h1 ht (Nat.le_refl _)).mono (by have:=h1.ml;omega)
  have l10:(ejS (ajS S9) t (ajS S9).members.length).members.length=S9.members.length:=(Yhr (ajS S9) t).l.trans (UZ S9.par (S9.members,S9.purses) S9.members.length).1;have x10:(ejS (ajS S9) t (ajS S9).members.length).exit.length≤S9.exit.length:=Ziq _ _ _ _;have ou10:(ejR (ajS S9) R9 (ajS S9).members.length).out=R9.out++ouN (ajS S9).par (ajS S9).members (ajS S9).members.length:=rfl;have la10:(ajS S9).members.length≤128:=by rw[show (ajS S9).members.length=S9.members.length from(UZ S9.par (S9.members,S9.purses) S9.members.length).1];exact ti9.ml
  obtain⟨S10,hS10⟩:∃x,x=ejS (ajS S9) t (ajS S9).members.length:=⟨_,rfl⟩
  obtain⟨R10,hR10⟩:∃x,x=ejR (ajS S9) R9 (ajS S9).members.length:=⟨_,rfl⟩
  rw[← hS10]at i10d tiE l10 x10;rw[← hR10]at ok10 ou10;rw[← hS10,← hR10];have eT:UC s=seS S10:=by rw[UC,e10,hS10];rfl
  have eR:Zcz s=R10:=by rw[Zcz,e10,hR10];rfl
  have eP10:(ajS S9).purses=S10.purses:=by rw[hS10];rfl
  rw[eP10]at i10p;obtain⟨pa10,pc10,rfl,_⟩:=i10p.open;obtain⟨da10,dc10,rfl,_⟩:=i10d.open;have iP:=i10p;have iD:=i10d;have kE:S10.marks=s.marks:=by rw[hS10];exact k9
  have rE:S10.ring=s.ring:=by rw[hS10];exact r9
  have mE:S10.motions=S9.motions:=by rw[hS10];rfl
  have oE:S10.pool=S9.pool:=by rw[hS10];rfl
  have nE:S10.entry=S9.entry:=by rw[hS10];rfl
  have okmE:okO om8 S10.members.length:=by rw[l10];exact okm8
  have okxE:okO xo S10.exit.length:=Zru okx8 x10;have okoE:=ok10;have obE:∀z∈R10.out,0≤z∧z<((128:Nat):Int):=fun z hz=>by
   rw[ou10]at hz;rcases List.mem_append.1 hz with hz|hz
   ·rw[ro9.1]at hz;exact ro8.2.2.1 z hz
   ·have:=Whh _ _ _ z hz;omega
  have olE:R10.out.length≤1000:=by
   rw[ou10,List.length_append,ro9.1];have:=Zhs (ajS S9).par (ajS S9).members (ajS S9).members.length;omega
  have leE:=le19.trans le10;have leE9:=le10;have lE:R10.left=lvW S5∧R10.started=R9.started∧R10.done=R9.done:=by rw[hR10];exact⟨ro9.2.1.trans ro8.1,rfl,rfl⟩
  refine xx ?_;have ml10:S10.members.length≤128:=tiE.ml;have lenS:(seS S10).members.length=S10.members.length:=Vd _ _ _;refine Zb.fin (Zb.weaken (Za.perm _ Ykx) (Zb.apn (Zeu (s:=S10) (v:=⟨.slice pa10 S10.purses.length pc10,ovs om8 S9.members.length,ovs oe8 S9.entry.length,ovs xo S10.exit.length,.slice oa8 S8.pool.length oc8,.slice da10 S10.dues.length dc10,.slice ta9 q9.length tc9,.slice uka s.marks.length ukc,.slice ura s.ring.length urc⟩) (om:=om8) (r:=R10) (q:=⟨ovs oo10 R10.out.length,.slice la7 (lvW S5).length lc7,ovs os8 R9.started.length,ovs od9 R9.done.length⟩) tiE (by rw[kE];exact ik.up leE) ⟨uqr,ir1.up leE,ir2.trans rE.symm⟩ (by rw[rE];exact few.r) (by rw[rE];exact few.b) (by rw[kE];exact few.k) (by rw[l10]) okmE fun hz kvz rvz lez iz1 iz2 ap nd=>?_)));obtain⟨kza,kzc,rfl,_⟩:=iz1.open;obtain⟨qz,z1,z2⟩:=iz2;obtain⟨rza,rzc,rfl,_⟩:=z1.open;have ap:=Ap.perm Zha ap;have nd:=Nd.perm Zha nd;have eln:=V8 tiE.en;have elx:=V8 tiE.ex;obtain⟨g1,l1,dr1,sl1,ap,nd⟩:=Jk (n:=(seS S10).members.length) (by rw[lenS];exact okmE) (Z3 Yb _) (by omega) ap nd;obtain⟨g2,l2,dr2,sl2,ap,nd⟩:=Jk (n:=R10.out.length) (sz:=1) okoE (by simp) (by omega) ap nd;obtain⟨g3,l3,dr3,sl3,ap,nd⟩:=Jk (n:=S10.exit.length) (sz:=1) okxE (by simp) (by omega) ap nd;obtain⟨g4,l4,dr4,sl4,ap,nd⟩:=Jk (n:=R9.done.length) (sz:=1) okd9 (by simp) (Zag okd9) ap nd;obtain⟨g5,l5,dr5,sl5,ap,nd⟩:=Jk (n:=S9.entry.length) (sz:=1) oke8 (by simp) (Zag oke8) ap nd;obtain⟨g6,l6,dr6,sl6,ap,nd⟩:=Jk (n:=R9.started.length) (sz:=1) oks8 (by simp) (Zag oks8) ap nd;refine⟨_,_,(Za.perm _ Zha).trans (dr1.trans (dr2.trans (dr3.trans (dr4.trans (dr5.trans dr6))))),?_⟩;obtain⟨hc5,hc3,hc2,hc1,_⟩:=ap;simp only at hc5 hc3 hc2 hc1;clear nd dr1 dr2 dr3 dr4 dr5 dr6;have m56:=l5.trans l6;have m46:=l4.trans m56;have m36:=l3.trans m46;have m26:=l2.trans m36;have mz6:=lez.trans (l1.trans m26)
  have hIS:Zs g6 ⟨.slice pa10 S10.purses.length pc10,ovs om8 S9.members.length,ovs oe8 S9.entry.length,ovs xo S10.exit.length,.slice oa8 S8.pool.length oc8,.slice da10 S10.dues.length dc10,.slice ta9 q9.length tc9,.slice kza (List.replicate 16 (0:Int)).length kzc,.slice rza qz.length rzc⟩ (UC s):=by
   rw[eT];have hn:=tiE.ok.n;have hp1:=tiE.ep;simp only[List.forall_mem_cons]at hn;refine⟨⟨tiE.ok.p,tiE.ok.u,?_⟩,iP.up mz6,?_,?_,?_,?_,?_,fun x hx=>(tiE.oo x hx).1,iD.up mz6,fun x hx=>(tiE.dd x hx).1,⟨q9,i9t1.up (leE9.trans mz6),i9t2.trans mE.symm,fun x hx=>(i9t3 x hx).up (leE9.trans mz6)⟩,iz1.up (l1.trans m26),?_⟩
   ·show ∀z∈[S10.ep+1,S10.calm],_;simp only[List.forall_mem_cons];exact⟨by omega,hn.2⟩
   ·have:=Zh.pub (f:=YK) (w:=6) (l:=(seS S10).members) (o:=om8) Yb (sl1.up m26);rw[lenS]at this;exact(by rw[l10]at this;exact this)
   ·exact Zmj Zg (fun m hm=>Zpe tiE.ok.p tiE.r hm) tiE.be.m _ (Nat.le_refl _)
   ·exact J6 (st:=1) (by show Gd S10.members S10.entry 1;exact tiE.en) ml10 (by show Sl _ _ S10.entry.length 1 (S10.entry.map _);rw[nE];exact sl5.up l6)
   ·exact J6 (st:=3) (by show Gd S10.members S10.exit 3;exact tiE.ex) ml10 (sl3.up m46)
   ·show Zh UY 4 g6 _ S10.pool;rw[oE];exact i8o9.up (leE9.trans mz6)
   ·exact⟨qz,z1.up (l1.trans m26),z2⟩
  have hRP:ZH g6 ⟨ovs oo10 R10.out.length,.slice la7 (lvW S5).length lc7,ovs os8 R9.started.length,ovs od9 R9.done.length⟩ (Zcz s):=by
   rw[eR];refine⟨Ytv (sl2.up m36) fun z hz=>by have:=obE z hz;omega,by rw[lE.1];exact i7l.up ((le8.trans (le9.trans leE9)).trans mz6),?_,?_⟩
   ·rw[lE.2.1];exact Ytv sl6 fun z hz=>by have:=ro8.2.2.2.1 z (by rw[← ro9.2.2];exact hz);omega
   ·rw[lE.2.2];exact Ytv (sl4.up m56) fun z hz=>by have:=dn9 z hz;omega
  have hk:=hk g6 _ _ (le1.trans (leE.trans mz6)) hIS hRP;rw[eT,eR]at hk;refine xx ?_;refine Yr (.tk 0 (.tk 1 (.tk 2 (.tk 4 (.tk 5 (.tk 6 (.tkl 3 (.o1 7 (.o2 8 (.o2 9 (.tk 10 (.fin)) (.nil)) (.nil)) (.o2 8 (.o1 7 (.o2 9 (.tk 10 (.fin)) (.nil)) (.nil)) (.nil)))))))))) (by kernel_rfl) (by kernel_rfl) _ (Za.refl _ _) ?_
  repeat' first
   | with_reducible refine YF ?_ ?_
   | simp -dsimp -implicitDefEqProofs (disch:=first|with_reducible assumption|omega) [go_sem]
   | fail
  all_goals exact ZP (ZP (ZP (ZP (ZO hk))))
theorem Ywm {s:Zf}{D:Nat}(ti:Zt s D)(ms:∀m∈s.members,MI s.par m):Zt (tk7 s).1 (D+192)∧Fr s (tk7 s).1∧Zt (tk8 s).1 (D+256)∧(∀m∈(tk8 s).1.members,MI s.par m∧MF s.par m)∧(tk8 s).1.par=s.par∧(tk8 s).1.ep=s.ep∧(tk8 s).1.members.length≤128:=by
 have hpc:=Ys ti.r;have hep:=ti.ep;have hml:=ti.ml;have hA:=Zqe ti.ml ms;have ht:0≤atP s∧atP s≤2147483647:=by unfold atP;omega
 have hact:0≤Gg s∧Gg s≤18446744073709551615:=by
  have:=GR (ks:=s.marks) ti.be.m;have e:Gg s=Zen s.members:=rfl;omega
 have ti2:Zt (tk2 s).1 D:=Yqd ti;have f2:Fr s (tk2 s).1:=Yoz s;have m2:∀m∈(tk2 s).1.members,MI s.par m:=wg_ms ti ms;have ra2:0≤(tk2 s).2.act∧(tk2 s).2.act≤18446744073709551615:=hact;obtain⟨S2,hS2⟩:∃x,x=(tk2 s).1:=⟨_,rfl⟩
 obtain⟨R2,hR2⟩:∃x,x=(tk2 s).2:=⟨_,rfl⟩
 have rb2:R2.burned=0:=by rw[hR2];rfl
 have e3:tk3 s=(mtS S2 R2,mtR S2 R2):=by rw[hS2,hR2];rfl
 rw[← hS2]at ti2 f2 m2;rw[← hR2]at ra2;have ti3:=Yop ti2 ra2;have f3:=f2.next (Ynz S2 R2);have m3:∀m∈(mtS S2 R2).members,MI s.par m:=by
  rw[← f2.par]at m2 ⊢;exact Yvw ti2 ra2 m2 _ (Nat.le_refl _)
 have rb3:(mtR S2 R2).burned=0:=rb2;obtain⟨S3,hS3⟩:∃x,x=mtS S2 R2:=⟨_,rfl⟩
 obtain⟨R3,hR3⟩:∃x,x=mtR S2 R2:=⟨_,rfl⟩
 rw[← hS3]at ti3 f3 m3 e3;rw[← hR3]at rb3 e3;have e4:tk4 s=(fnS S3 R3,fnR S3 R3 S3.members.length):=by unfold tk4;rw[e3]
 have ti4:=Ymu ti3 rb3;have f4:=f3.next (Yrd S3 R3);have m4:∀m∈(fnS S3 R3).members,MI s.par m:=by
  rw[← f3.par]at m3 ⊢;exact fn_ms ti3 R3 m3
 obtain⟨S4,hS4⟩:∃x,x=fnS S3 R3:=⟨_,rfl⟩
 rw[← hS4]at ti4 f4 m4 e4;have e5:(tk5 s).1=ejS S4 (atP s) S4.members.length:=by unfold tk5;rw[e4];rfl
 have ti5:=Zkb ti4 ht (Nat.le_refl S4.members.length);have f5:=f4.next (Yhr S4 (atP s));have m5:∀m∈(ejS S4 (atP s) S4.members.length).members,MI s.par m∧MF s.par m:=by
  rw[← f4.par]at m4 ⊢;exact Yvd ti4.r _ m4
 rw[← e5]at ti5 f5 m5;have l4:=f4.l;have ti7:Zt (tk7 s).1 (D+192):=(Yys ti5 ht).mono (by omega);have f7:Fr s (tk7 s).1:=f5.next (Yqp (tk5 s).1 (atP s));have m7:∀m∈(tk7 s).1.members,MI s.par m∧MF s.par m:=by
  rw[← f5.par]at m5 ⊢;exact Yyy ti5.r (atP s) _ m5 _
 have ti8:Zt (tk8 s).1 (D+256):=Ywt ti7 (tk7 s).2 ht;have m8:∀m∈(tk8 s).1.members,MI s.par m∧MF s.par m:=by
  rw[← f7.par]at m7 ⊢;exact en_ms ti7 (tk7 s).2 (atP s) m7
 obtain⟨a8,b8,_⟩:=Wdb (tk7 s).1 (tk7 s).2 (atP s);exact⟨ti7,f7,ti8,m8,a8.trans f7.par,b8.trans f7.ep,ti8.ml⟩
structure Rs (a b:Zk):Prop where
 ep:b.ep=a.ep
 mode:b.mode=a.mode
 quo:b.quo=a.quo
 pres:b.pres=a.pres
 act:b.act=a.act
 mint:b.mint=a.mint
 paid:b.paid=a.paid
 kept:b.kept=a.kept
theorem Rs.next {a b c:Zk}(h:Rs a b)(h2:Rs b c):Rs a c:=⟨h2.ep.trans h.ep,h2.mode.trans h.mode,h2.quo.trans h.quo,h2.pres.trans h.pres,h2.act.trans h.act,h2.mint.trans h.mint,h2.paid.trans h.paid,h2.kept.trans h.kept⟩
theorem calm7 (s:Zf):(tk7 s).1.calm=(JS s.calm (Zgt s) (Gg s)).1:=rfl
theorem Yns (s:Zf)(r:Zk)(t:Int):(enS s r t).calm=s.calm:=by
 unfold enS;split<;>rfl
theorem Ynp (s:Zf)(r:Zk)(t:Int):(Ynl t (ajS s,r)).1.calm=s.calm:=rfl
theorem Yor (s:Zf)(r:Zk):(moS s r).calm=s.calm:=rfl
theorem Yqf (s:Zf):(seS s).calm=s.calm:=rfl
theorem Zws (s:Zf):(UC s).calm=(JS s.calm (Zgt s) (Gg s)).1:=by
 have e8:(tk8 s).1.calm=(JS s.calm (Zgt s) (Gg s)).1:=(Yns (tk7 s).1 (tk7 s).2 (atP s)).trans (calm7 s);have e9:(tk9 s).1.calm=(tk8 s).1.calm:=Yor (tk8 s).1 (tk8 s).2;have e10:(J8 s).1.calm=(tk9 s).1.calm:=by
  by_cases c:(tk9 s).1.par=s.par
  ·rw[J8,if_pos c]
  ·rw[J8,if_neg c];exact Ynp _ _ _
 have eS:(UC s).calm=(J8 s).1.calm:=Yqf (J8 s).1;rw[eS,e10,e9,e8]
def DuP (l:List Zi):Prop:=Zbp l∧∀x∈l,(0≤x.at'∧x.at'≤2147483647)∧1≤x.amt
theorem Znp {l:List Zi}(h:DuP l){d:Zi}(ht:0≤d.at'∧d.at'≤2147483647)(h0:0≤d.amt):DuP (GH l d):=by
 refine⟨Yhw h.1 d,fun x hx=>?_⟩;by_cases c:d.amt=0
 ·rw[GH,if_pos c]at hx;exact h.2 x hx
 ·rcases Zhp hx with hx|rfl | ⟨h1,rfl⟩
  ·exact h.2 x hx
  ·exact⟨ht,by omega⟩
  ·have h2:=h.2 _ (Zak h1);refine⟨h2.1,?_⟩;show 1≤(gr Z5 l (Zmq l d)).amt+d.amt;omega
theorem Yrf {l:List Zi}(h:DuP l)(q:Zi→Bool):DuP (l.filter q) :=
 ⟨h.1.sublist (List.filter_sublist.map Zfb),fun x hx=>h.2 x (List.mem_filter.1 hx).1⟩
theorem bal0 {m:Zc}(mo:Zg m):0≤m.bal:=(mo.u m.bal (by simp)).1
theorem Yka {q:Ze}{cs:List Zc}(hm:∀m∈cs,Zg m){t:Int}(ht:0≤t∧t≤2147483647){ds:List Zi}(h:DuP ds):∀k,k≤cs.length→DuP (duN q cs t ds k)
 | 0,_=>h
 | k+1,hk=>by
  have ih:=Yka (q:=q) hm ht h k (by omega);rw[duN];split
  ·exact Znp ih ht (bal0 (hm _ (YM (z:=ZS) (k:=k) (by omega))))
  ·exact ih
theorem Ylw {s:Zf}{D:Nat}(ti:Zt s D){t:Int}(ht:0≤t∧t≤2147483647)(h:DuP s.dues):∀k,k≤(lvW s).length→DuP (lvK t (lvW s) (s.members,s.dues) k).2
 | 0,_=>h
 | k+1,hk=>by
  have ih:=Ylw ti ht h k (by omega);have lv:=(Zym ti ht (k:=k) (by omega)).1;show DuP (GH (lvK t (lvW s) (s.members,s.dues) k).2 (Gc t (gr ZS (lvK t (lvW s) (s.members,s.dues) k).1 (at0 (lvW s) k).toNat)));refine Znp ih ht ?_;have hw:=(Wir ti).2.2 (at0 (lvW s) k) (by rw[← Yx (by omega)];exact List.getElem_mem _);have l1:=lv.l1;exact bal0 (lv.m _ (YM (z:=ZS) (k:=(at0 (lvW s) k).toNat) (by simp only at l1;omega)))
theorem Yma {s:Zf}{D:Nat}(ti:Zt s D)(r:Zk){t:Int}(ht:0≤t∧t≤2147483647)(h:DuP s.dues):∀k,k≤(enW s).length→DuP (stK s.par t (enW s) ⟨(enX s).ms,s.dues,s.exit,r.out,r.started⟩ k).ds
 | 0,_=>h
 | k+1,hk=>by
  have ih:=Yma ti r ht h k (by omega);have st:=Zze ti r ht (k:=k) (by omega);have hd0:(enW s).drop k=at0 (enW s) k::(enW s).drop (k+1):=by rw[List.drop_eq_getElem_cons (by omega),Yx (by omega)]
  have hin:=Uv st.e (z:=at0 (enW s) k) (by rw[hd0];simp);rw[stK,Zbi];split
  ·exact ih
  ·refine Znp ih ht ?_;exact bal0 (st.m _ (YM (z:=ZS) (k:=(at0 (enW s) k).toNat) (by omega)))
structure Fz (s S:Zf):Prop where
 k:S.marks=s.marks
 r:S.ring=s.ring
 pn:S.purses.length=s.purses.length
 ml:s.members.length≤S.members.length
 o:S.pool=s.pool∨S.pool=[]
 du:DuP s.dues→DuP S.dues
theorem Fz.next {s S S':Zf}(h:Fz s S)(h2:Fz S S'):Fz s S' :=
 ⟨h2.k.trans h.k,h2.r.trans h.r,h2.pn.trans h.pn,Nat.le_trans h.ml h2.ml,by
  rcases h2.o with e|e
  ·rw[e];exact h.o
  ·exact .inr e,fun x=>h2.du (h.du x)⟩
theorem fz_wg (s:Zf):Fz s (wgS s):=⟨rfl,rfl,rfl,Nat.le_of_eq (Yoz s).l.symm,.inl rfl,id⟩
theorem fz_mt {s:Zf}{D:Nat}(ti:Zt s D){r:Zk}(ha:0≤r.act∧r.act≤18446744073709551615):Fz s (mtS s r) :=
 ⟨rfl,rfl,(Yzm ti ha (Nat.le_refl _)).l2,Nat.le_of_eq (Ynz s r).l.symm,.inl rfl,id⟩
theorem fz_fn (s:Zf)(r:Zk):Fz s (fnS s r):=⟨rfl,rfl,rfl,Nat.le_of_eq (Yrd s r).l.symm,.inl rfl,id⟩
theorem Yxl {s:Zf}{D:Nat}(ti:Zt s D){t:Int}(ht:0≤t∧t≤2147483647):Fz s (ejS s t s.members.length) :=
 ⟨rfl,rfl,rfl,Nat.le_of_eq (Yhr s t).l.symm,.inl rfl,fun h=>Yka ti.be.m ht h _ (Nat.le_refl _)⟩
theorem fz_lv {s:Zf}{D:Nat}(ti:Zt s D){t:Int}(ht:0≤t∧t≤2147483647):Fz s (lvS s t) :=
 ⟨rfl,rfl,(Zlb ti.be.p (lv_d ti ht) _ (Nat.le_refl _)).1,Nat.le_of_eq (Yqp s t).l.symm,.inl rfl,fun h=>Yrf (Ylw ti ht h _ (Nat.le_refl _)) _⟩
theorem fz_en {s:Zf}{D:Nat}(ti:Zt s D)(r:Zk){t:Int}(ht:0≤t∧t≤2147483647):Fz s (enS s r t):=by
 have hx:=Yrt ti;have st:=Zze ti r ht (Nat.le_refl (enW s).length);unfold enS;split
 ·refine⟨rfl,rfl,hx.1.l2,?_,.inr rfl,fun h=>Yma ti r ht h _ (Nat.le_refl _)⟩;show s.members.length≤(enY s r t).ms.length;have h1:(enY s r t).ms.length=(enX s).ms.length:=st.l1;omega
 ·exact⟨rfl,rfl,rfl,Nat.le_refl _,.inl rfl,id⟩
theorem fz_mo {s:Zf}{D:Nat}(ti:Zt s D)(r:Zk):Fz s (moS s r) :=
 ⟨rfl,rfl,(mo_k ti r (Nat.le_refl _)).l2,Nat.le_refl _,.inl rfl,id⟩
theorem fz_aj (s:Zf):Fz s (ajS s) :=
 ⟨rfl,rfl,(UZ s.par (s.members,s.purses) s.members.length).2,Nat.le_of_eq (UZ s.par (s.members,s.purses) s.members.length).1.symm,.inl rfl,id⟩
theorem Ymj {s:Zf}{D:Nat}(ti:Zt s D)(ms:∀m∈s.members,MI s.par m):Zt (J8 s).1 (D+384)∧Fz s (J8 s).1∧∀m∈(J8 s).1.members,MI (J8 s).1.par m∧MF (J8 s).1.par m:=by
 obtain⟨ti7,f7,ti8,m8,p8,e8,l8⟩:=Ywm ti ms;have hpc:=Ys ti.r;have hep:=ti.ep;have hml:=ti.ml;have hA:=Zqe ti.ml ms;have ht:0≤atP s∧atP s≤2147483647:=by unfold atP;omega
 have hact:0≤Gg s∧Gg s≤18446744073709551615:=by
  have:=GR (ks:=s.marks) ti.be.m;have e:Gg s=Zen s.members:=rfl;omega
 have ti2:Zt (tk2 s).1 D:=Yqd ti;have z2:Fz s (tk2 s).1:=fz_wg s;have ra2:0≤(tk2 s).2.act∧(tk2 s).2.act≤18446744073709551615:=hact;obtain⟨S2,hS2⟩:∃x,x=(tk2 s).1:=⟨_,rfl⟩
 obtain⟨R2,hR2⟩:∃x,x=(tk2 s).2:=⟨_,rfl⟩
 have rb2:R2.burned=0:=by rw[hR2];rfl
 have e3:tk3 s=(mtS S2 R2,mtR S2 R2):=by rw[hS2,hR2];rfl
 rw[← hS2]at ti2 z2;rw[← hR2]at ra2;have ti3:=Yop ti2 ra2;have z3:=z2.next (fz_mt ti2 ra2);have rb3:(mtR S2 R2).burned=0:=rb2;obtain⟨S3,hS3⟩:∃x,x=mtS S2 R2:=⟨_,rfl⟩
 obtain⟨R3,hR3⟩:∃x,x=mtR S2 R2:=⟨_,rfl⟩
 rw[← hS3]at ti3 z3 e3;rw[← hR3]at rb3 e3;have e4:tk4 s=(fnS S3 R3,fnR S3 R3 S3.members.length):=by unfold tk4;rw[e3]
 have ti4:=Ymu ti3 rb3;have z4:=z3.next (fz_fn S3 R3);obtain⟨S4,hS4⟩:∃x,x=fnS S3 R3:=⟨_,rfl⟩
 rw[← hS4]at ti4 z4 e4;have e5:(tk5 s).1=ejS S4 (atP s) S4.members.length:=by unfold tk5;rw[e4];rfl
 have ti5:=Zkb ti4 ht (Nat.le_refl S4.members.length);have z5:=z4.next (Yxl ti4 ht);rw[← e5]at ti5 z5;have z7:Fz s (tk7 s).1:=z5.next (fz_lv ti5 ht);have z8:Fz s (tk8 s).1:=z7.next (fz_en ti7 (tk7 s).2 ht);have ti9:Zt (tk9 s).1 (D+256):=Ymn ti8 (tk8 s).2 (Nat.le_refl _);have z9:Fz s (tk9 s).1:=z8.next (fz_mo ti8 (tk8 s).2);have m9:∀m∈(tk9 s).1.members,MI s.par m∧MF s.par m:=m8;obtain⟨S9,hS9⟩:∃x,x=(tk9 s).1:=⟨_,rfl⟩
 rw[← hS9]at ti9 z9 m9;by_cases c:(tk9 s).1.par=s.par
 ·have e10:(J8 s).1=S9:=by rw[J8,if_pos c,hS9]
  rw[← hS9]at c;rw[e10];refine⟨ti9.mono (by omega),z9,?_⟩;rw[c];exact m9
 ·have e10:(J8 s).1=ejS (ajS S9) (atP s) (ajS S9).members.length:=by rw[J8,if_neg c,hS9];rfl
  have tj:Zt (ajS S9) (D+256):=Zyv ti9 (Nat.le_refl _);rw[e10];refine⟨(Zkb tj ht (Nat.le_refl _)).mono (by have:=tj.ml;omega),z9.next ((fz_aj S9).next (Yxl tj ht)),?_⟩;exact Yvd tj.r _ (aj_ms (p:=s.par) ti9.r fun m hm=>(m9 m hm).1)
theorem Gp (q:Ze)(m:Zc):(Zaa q m).status=m.status∧(Zaa q m).owner=m.owner:=by
 unfold Zaa;split<;>exact⟨rfl,rfl⟩
theorem chk0:UT (List.replicate 16 0) 128=true:=by decide
theorem get0:∀ i:Nat,i<128→Vs (List.replicate 16 0) i=false:=by decide +kernel
theorem Wcs (s:Zf)(r:Zk)(t:Int):(enS s r t).ep=s.ep:=by
 unfold enS;split<;>rfl
theorem Yyo (s:Zf)(r:Zk)(t:Int):(Ynl t (ajS s,r)).1.ep=s.ep:=rfl
theorem Wcq (s:Zf)(r:Zk):(moS s r).ep=s.ep:=rfl
theorem Yzj (s:Zf):(seS s).ep=s.ep+1:=rfl
theorem ep7' (s:Zf):(tk7 s).1.ep=s.ep:=rfl
theorem Yik (s:Zf):(UC s).ep=s.ep+1:=by
 have e8:(tk8 s).1.ep=s.ep:=(Wcs (tk7 s).1 (tk7 s).2 (atP s)).trans (ep7' s);have e9:(tk9 s).1.ep=(tk8 s).1.ep:=Wcq (tk8 s).1 (tk8 s).2;have e10:(J8 s).1.ep=(tk9 s).1.ep:=by
  by_cases c:(tk9 s).1.par=s.par
  ·rw[J8,if_pos c]
  ·rw[J8,if_neg c];exact Yyo _ _ _
 have eS:(UC s).ep=(J8 s).1.ep+1:=Yzj (J8 s).1;rw[eS,e10,e9,e8]
theorem Zwk {h:PH}{v:SV}{s:Zf}(hs:Zs h v s)(hf:YQ s=true)(he:s.ep<1073741824):YQ (UC s)=true:=by
 have ti:=Yje hs hf he (Nat.le_refl s.dues.length);obtain⟨t10,z10,m10⟩:=Ymj ti fun m hm=>(Yna hs hf m hm).1;obtain⟨f1,f2,f3,f4,f5,f6,f7,f8,f9⟩:=fitsT_iff.1 hf;have hc:=Zws s;have hcb:=Ycu (calm:=s.calm) (pr:=Zgt s) (ac:=Gg s);have hpe:=Yik s;have eS:UC s=seS (J8 s).1:=rfl;obtain⟨S,hS⟩:∃x,x=(J8 s).1:=⟨_,rfl⟩
 rw[← hS]at t10 z10 m10 eS;have hl:(seS S).members.length=S.members.length:=Vd _ _ _;have hsum:=t10.sum;obtain⟨b1,b2,b3,b4,b5,b6⟩:=t10.parts;have hep:=t10.ep;have hac:∀i,W8 (seS S) i=true↔0≤i∧i<(s.purses.length:Int):=fun i=>by
  rw[acctT_iff,← z10.pn];exact Iff.rfl
 simp only[UK,Bool.and_eq_true,List.all_eq_true,decide_eq_true_eq,Zcu,Zkz,List.mem_range,Bool.not_eq_true']at f6
 have hdu0:DuP s.dues:=⟨line_iff.2 fun k hk=>⟨(f6.2 k hk).1.2,(f6.2 k hk).2⟩,fun x hx=>by
  obtain⟨k,hk,rfl⟩:=List.mem_iff_getElem.1 hx;have:=(f6.2 k hk).1.1;rw[Yl hk]at this;simp only[G6,Bool.and_eq_true,wi_iff,decide_eq_true_eq]at this
  exact⟨this.1.1.2,this.1.2⟩⟩
 have hdu:=z10.du hdu0;rw[fitsT_iff,hc,hpe,eS];refine⟨t10.r,?_,?_,?_,?_,?_,?_,?_,?_⟩
 ·rw[wi_iff];have:=ti.ep;omega
 ·rw[wi_iff];exact hcb
 ·simp only[VR,Bool.and_eq_true,List.all_eq_true,decide_eq_true_eq,wi_iff]at f4 ⊢;refine⟨?_,fun z hz=>?_⟩
  ·show 1≤(S.purses.length:Int)∧(S.purses.length:Int)≤64;rw[z10.pn];exact f4.1
  ·obtain⟨k,hk,rfl⟩:=List.mem_iff_getElem.1 (show z∈S.purses from hz);have:=YC t10.be.p k;rw[Yx hk];omega
 ·simp only[Wt,Bool.and_eq_true,List.all_eq_true,decide_eq_true_eq];refine⟨⟨⟨by rw[hl];exact t10.ml,fun m hm=>?_⟩,?_⟩,?_⟩
  ·have e:(seS S).members=S.members.map (Zaa S.par):=Zhc _ _;rw[e]at hm;obtain⟨x,hx,rfl⟩:=List.mem_map.1 hm;have h1:=m10 x hx;have h2:=t10.be.o x hx;refine⟨Yob t10.r h1.1 h1.2,?_⟩;rw[(Gp _ _).2,hac,← z10.pn];exact h2
  ·rw[row_iffB];exact G2 t10.en hl fun j hj=>by
    show (gr ZS (upN (Zaa S.par) S.members S.members.length) j).status=1↔_;rw[Zel _ _ _ (Nat.le_refl _),if_pos hj,(Gp _ _).1]
  ·rw[row_iffB];exact G2 t10.ex hl fun j hj=>by
    show (gr ZS (upN (Zaa S.par) S.members S.members.length) j).status=3↔_;rw[Zel _ _ _ (Nat.le_refl _),if_pos hj,(Gp _ _).1]
 ·simp only[UK,Bool.and_eq_true,List.all_eq_true,decide_eq_true_eq,Zcu,Zkz,List.mem_range,Bool.not_eq_true'];refine⟨⟨t10.on,fun d hd=>?_⟩,fun k hk=>?_⟩
  ·have hd':d∈s.pool:=by
    have hd2:d∈S.pool:=hd;rcases z10.o with e|e
    ·rw[← e];exact hd2
    ·rw[e]at hd2;cases hd2
   have h1:=f6.1.2 d hd';have hmm:=z10.ml;simp only[UR,Bool.and_eq_true,Bool.or_eq_true,wi_iff]at h1 ⊢;refine⟨⟨h1.1.1,(hac _).2 (acctT_iff.1 h1.1.2)⟩,h1.2.imp id fun c=>?_⟩;rw[hl];omega
  ·have hk':k<S.dues.length:=hk;have h1:=(line_iff.1 hdu.1) k hk';refine⟨⟨?_,h1.1⟩,h1.2⟩;have h2:=hdu.2 _ (Zak hk');have h3:=t10.dd _ (Zak hk');have h4:=Ydy (fun x hx=>(t10.dd x hx).1) hk';show G6 (seS S) (gr Z5 S.dues k)=true;simp only[G6,Bool.and_eq_true,decide_eq_true_eq,wi_iff];refine⟨⟨⟨(hac _).2 (by rw[← z10.pn];exact h3.2),h2.1⟩,h2.2⟩,by omega⟩
 ·simp only[Vo,Bool.and_eq_true,List.all_eq_true,decide_eq_true_eq];refine⟨t10.mn,fun m hm=>?_⟩;have h1:=t10.mm m hm;exact⟨⟨h1.f,(hac _).2 (by rw[← z10.pn];exact h1.a)⟩,(hac _).2 (by rw[← z10.pn];exact h1.t)⟩
 ·simp only[Jm,Zhv,Bool.and_eq_true,List.all_eq_true,decide_eq_true_eq]at f8 ⊢;refine⟨⟨⟨?_,chk0⟩,fun b hb=>?_⟩,fun i hi=>?_⟩
  ·show (Zle S.ring S.marks).length≤8;rw[Zle,List.length_cons,List.length_take];omega
  ·rcases List.mem_cons.1 (show b∈Zle S.ring S.marks from hb) with rfl|hb
   ·rw[z10.k];exact f8.1.1.2
   ·rw[z10.r]at hb;exact f8.1.2 b (List.mem_of_mem_take hb)
  ·rw[Bool.or_eq_true,Bool.not_eq_true'];exact .inr (get0 i (List.mem_range.1 hi))
 ·simp only[WL,Bool.and_eq_true,decide_eq_true_eq];refine⟨t10.top,?_⟩;have hm:=t10.mon;have e1:Zkd (seS S)=tot (S.members.map Zc.bal):=by
   show tot ((upN (Zaa S.par) S.members S.members.length).map Zc.bal)=_;rw[Yrb _ _ rfl]
  have e2:Zmt (seS S)=tot S.purses:=rfl;have e3:Ga (seS S)=tot (S.pool.map Zn.amt):=rfl;have e4:Zmr (seS S)=WP S.dues:=rfl;rw[Zpg,e1,e2,e3,e4];show _+S.treas+S.burn=S.gen+S.mint;omega
theorem Ydc {s:Zf}(ho:Zu s):ZJ s:=⟨by have:=ho.p;omega,by have:=ho.m;omega,by have:=ho.e;omega,by have:=ho.x;omega,by have:=ho.o;omega,by have:=ho.d;omega,by have:=ho.t;omega,by have:=ho.r;omega⟩
theorem ZH.slices {q:RV}{r:Zk}(hq:ZH h q r):∃oa oc la lc sa sc da dc,q=⟨.slice oa r.out.length oc,.slice la r.left.length lc,.slice sa r.started.length sc,.slice da r.done.length dc⟩:=by
 obtain⟨qo,ql,qs,qd⟩:=q;obtain⟨h1,h2,h3,h4⟩:=hq;simp only at h1 h2 h3 h4;obtain⟨oa,oc,rfl,_⟩:=h1.open;obtain⟨la,lc,rfl,_⟩:=h2.open;obtain⟨sa,sc,rfl,_⟩:=h3.open;obtain⟨da,dc,rfl,_⟩:=h4.open;exact⟨oa,oc,la,lc,sa,sc,da,dc,rfl⟩
theorem ZH.up {h h':PH}(le:PH.le h h'){q:RV}{r:Zk}(hq:ZH h q r):ZH h' q r:=⟨hq.o.up le,hq.l.up le,hq.s.up le,hq.d.up le⟩
abbrev nilR:RV:=⟨.slice none 0 0,.slice none 0 0,.slice none 0 0,.slice none 0 0⟩
theorem Ygs {s:Zf}(v:SV)(hs:Zs h v s)(few:Zu s)(fd:s.dues.length≤29000)
  (hk:Zdc s=0→YQ s=true→s.ep<1073741824→∀h' u q,PH.le h h'→Zs h' u (UC s)→ZH h' q (Zcz s)→K (.tuple #[stV (UC s) u,rpV (Zcz s) q,.int .i64 0]) L h')
  (hno:Zdc s≠0→K (.tuple #[stV Ui Zge,rpV zeroR nilR,.int .i64 (Zdc s)]) L h) :
  Zb Tryz.prog 19 [stV s v] L h K:=by
 by_cases hf:YQ s=true
 ·by_cases he:s.ep<1073741824
  ·have e0:Zdc s=0:=by rw[Zdc,if_pos hf,if_neg (by omega)]
   have ti:=Yje hs hf he (Nat.le_refl s.dues.length);have ms:=Yna hs hf;have t8:=Ywm ti fun m hm=>(ms m hm).1
   exact Zxc v hs few fd hf he (Zqe ti.ml fun m hm=>(ms m hm).1) (by
    have:=Zqe t8.2.2.2.2.2.2 fun m hm=>(t8.2.2.2.1 m hm).1;show Zen (tk8 s).1.members≤_
    omega) (hk e0 hf he)
  ·have e0:Zdc s=200:=by rw[Zdc,if_pos hf,if_pos (by omega)]
   have hno:=hno (by omega);rw[e0]at hno;have fewS:=Ydc few;obtain⟨pa,pc,ma,mc,ea,ec,xa,xc,oa,oc,da,dc,ta,tc,ka,kc,ra,rc,rfl⟩:=hs.slices;refine Z4 Tryz.func19 rfl (rs:=[_,_,_]) rfl rfl ZY (by kernel_rfl) rfl rfl fun ap nd=>?_;clear ap nd;refine xx ?_;refine Z6 fun b1 nb1 zb1=>?_;(try simp only[ZU]at nb1);refine xx ?_;refine Z6 fun b2 nb2 zb2=>?_;(try simp only[ZU]at nb2);refine xx ?_;refine Z6 fun b3 nb3 zb3=>?_;(try simp only[ZU]at nb3);refine xx ?_;refine U8 (s:=s) ⟨.slice pa s.purses.length pc,.slice ma s.members.length mc,.slice ea s.entry.length ec,.slice xa s.exit.length xc,.slice oa s.pool.length oc,.slice da s.dues.length dc,.slice ta s.motions.length tc,.slice ka s.marks.length kc,.slice ra s.ring.length rc⟩ hs fewS ?_;rw[hf];refine xx ?_;exact ZP (ZP (ZP (ZO hno)))
 ·have hf':YQ s=false:=by simpa using hf
  have e0:Zdc s=291:=by rw[Zdc,if_neg hf]
  have hno:=hno (by omega);rw[e0]at hno;have fewS:=Ydc few;obtain⟨pa,pc,ma,mc,ea,ec,xa,xc,oa,oc,da,dc,ta,tc,ka,kc,ra,rc,rfl⟩:=hs.slices;refine Z4 Tryz.func19 rfl (rs:=[_,_,_]) rfl rfl ZY (by kernel_rfl) rfl rfl fun ap nd=>?_;clear ap nd;refine xx ?_;refine Z6 fun b1 nb1 zb1=>?_;(try simp only[ZU]at nb1);refine xx ?_;refine Z6 fun b2 nb2 zb2=>?_;(try simp only[ZU]at nb2);refine xx ?_;refine Z6 fun b3 nb3 zb3=>?_;(try simp only[ZU]at nb3);refine xx ?_;refine U8 (s:=s) ⟨.slice pa s.purses.length pc,.slice ma s.members.length mc,.slice ea s.entry.length ec,.slice xa s.exit.length xc,.slice oa s.pool.length oc,.slice da s.dues.length dc,.slice ta s.motions.length tc,.slice ka s.marks.length kc,.slice ra s.ring.length rc⟩ hs fewS ?_;rw[hf'];refine xx ?_;exact ZP (ZP (ZP (ZO hno)))
theorem en_ep (s:Zf)(r:Zk)(t:Int):(enS s r t).ep=s.ep:=by
 unfold enS;split<;>rfl
theorem ej_ep (s:Zf)(r:Zk)(t:Int):(Ynl t (ajS s,r)).1.ep=s.ep:=rfl
theorem mo_ep (s:Zf)(r:Zk):(moS s r).ep=s.ep:=rfl
theorem se_ep (s:Zf):(seS s).ep=s.ep+1:=rfl
theorem ep7 (s:Zf):(tk7 s).1.ep=s.ep:=rfl
theorem Ynf (s:Zf):(UC s).ep=s.ep+1:=by
 have e8:(tk8 s).1.ep=s.ep:=(en_ep (tk7 s).1 (tk7 s).2 (atP s)).trans (ep7 s);have e9:(tk9 s).1.ep=(tk8 s).1.ep:=mo_ep (tk8 s).1 (tk8 s).2;have e10:(J8 s).1.ep=(tk9 s).1.ep:=by
  by_cases c:(tk9 s).1.par=s.par
  ·rw[J8,if_pos c]
  ·rw[J8,if_neg c];exact ej_ep _ _ _
 have eS:(UC s).ep=(J8 s).1.ep+1:=se_ep (J8 s).1;rw[eS,e10,e9,e8]
structure Mn (a b:Zf):Prop where
 mint:b.mint=a.mint
 burn:b.burn=a.burn
 gen:b.gen=a.gen
 most:b.most=a.most
theorem Mn.next {a b c:Zf}(h:Mn a b)(h2:Mn b c):Mn a c:=⟨h2.mint.trans h.mint,h2.burn.trans h.burn,h2.gen.trans h.gen,h2.most.trans h.most⟩
theorem Yjo {bs:List Int}(hb:UT bs 128=true):bs.length=16:=by
 simp only[UT,Bool.and_eq_true,decide_eq_true_eq]at hb;have e:G9 128=16:=by decide
 omega
theorem Ypb (s:Zf):(seS s).dues=s.dues:=rfl
theorem Zqo {s:Zf}(hf:YQ s=true)(hd:s.dues.length≤34000):Zu s:=by
 obtain⟨f1,f2,f3,f4,f5,f6,f7,f8,f9⟩:=fitsT_iff.1 hf;simp only[VR,Bool.and_eq_true,wi_iff]at f4;simp only[Wt,Bool.and_eq_true,decide_eq_true_eq]at f5;have h1:=V8 (row_iffB.1 f5.1.2);have h3:=V8 (row_iffB.1 f5.2);have h5:=f5.1.1.1;simp only[UK,Bool.and_eq_true,decide_eq_true_eq]at f6;simp only[Vo,Bool.and_eq_true,decide_eq_true_eq,List.all_eq_true]at f7;simp only[Jm,Zhv,Bool.and_eq_true,decide_eq_true_eq,List.all_eq_true]at f8;have hk:=Yjo f8.1.1.2;refine⟨by omega,by omega,by omega,by omega,by have:=f6.1.1;omega,hd,by have:=f7.1;omega,by omega,by omega,fun m hm=>?_,fun b hb=>by have:=Yjo (f8.1.2 b hb);omega⟩;obtain⟨g1,g2,g3,g4,g5⟩:=motFits_iff.1 (f7.2 m hm).1.1;have:=Yjo g3;have:=Yjo g4;omega
theorem Zui {s:Zf}(hf:YQ s=true):Ym s.par=true∧WL s=true∧s.members.length≤128:=by
 obtain⟨f1,f2,f3,f4,f5,f6,f7,f8,f9⟩:=fitsT_iff.1 hf;simp only[Wt,Bool.and_eq_true,decide_eq_true_eq]at f5;exact⟨f1,f9,f5.1.1.1⟩
theorem Yan {h:PH}{v:SV}{s:Zf}(hs:Zs h v s)(hf:YQ s=true)(he:s.ep<1073741824):(UC s).dues.length≤s.dues.length+384:=by
 have ti:=Yje hs hf he (Nat.le_refl s.dues.length);have t10:=(Ymj ti fun m hm=>(Yna hs hf m hm).1).1;have e:(UC s).dues=(J8 s).1.dues:=Ypb (J8 s).1;rw[e];exact t10.dn
structure KpG where
 k:Nat
 h:PH
 u:SV
 s:Zf
def Ygu (m:Zc):Int×Int×Int×Int×Int:=(m.bal,m.eff,m.score,m.streak,m.owner)
structure Kd (a b:Zf):Prop where
 mint:b.mint=a.mint
 burn:b.burn=a.burn
 par:b.par=a.par
 ep:b.ep=a.ep
 calm:b.calm=a.calm
 emer:b.emer=a.emer
 std:b.members.map Ygu=a.members.map Ygu
 dues:b.dues=a.dues
theorem Kd.refl (s:Zf):Kd s s:=⟨rfl,rfl,rfl,rfl,rfl,rfl,rfl,rfl⟩
theorem Kd.trans {a b c:Zf}(h:Kd a b)(h2:Kd b c):Kd a c:=⟨h2.mint.trans h.mint,h2.burn.trans h.burn,h2.par.trans h.par,h2.ep.trans h.ep,h2.calm.trans h.calm,h2.emer.trans h.emer,h2.std.trans h.std,h2.dues.trans h.dues⟩
theorem Zwl (l:List Zc)(j:Nat):(l.set j { gr ZS l j with status:=3 }).map Ygu=l.map Ygu:=by
 rw[List.map_set];apply List.ext_getElem?;intro n;rw[List.getElem?_set];split
 ·rename_i e;subst e;split
  ·rename_i hj;rw[List.length_map]at hj;rw[List.getElem?_map,List.getElem?_eq_getElem hj,Yl hj]
   rfl
  ·rename_i hj;rw[List.getElem?_eq_none (by omega)]
 ·rfl
theorem Ypr (s:Zf)(d:Zd):Kd s (Gb s d).1:=by
 unfold Gb
 repeat' split
 all_goals exact⟨rfl,rfl,rfl,rfl,rfl,rfl,rfl,rfl⟩
theorem Ygn (s:Zf)(d:Zd):Kd s (VU s d).1:=by
 unfold VU
 repeat' split
 all_goals exact⟨rfl,rfl,rfl,rfl,rfl,rfl,rfl,rfl⟩
theorem Yft (s:Zf)(d:Zd):Kd s (Vf s d).1:=by
 unfold Vf;split
 ·exact⟨rfl,rfl,rfl,rfl,rfl,rfl,Zwl _ _,rfl⟩
 ·exact Kd.refl _
theorem Yql (s:Zf)(d:Zd):Kd s (VT s d).1:=by
 unfold VT
 repeat' split
 all_goals exact⟨rfl,rfl,rfl,rfl,rfl,rfl,rfl,rfl⟩
theorem Wak (s:Zf)(d:Zd):Kd s (Zmx s d).1:=by
 unfold Zmx
 repeat' split
 all_goals exact⟨rfl,rfl,rfl,rfl,rfl,rfl,rfl,rfl⟩
theorem Yms (s:Zf)(d:Zd):Kd s (VV s d).1:=by
 unfold VV
 repeat' split
 all_goals exact⟨rfl,rfl,rfl,rfl,rfl,rfl,rfl,rfl⟩
theorem Yyq (s:Zf)(d:Zd):Kd s (doP s d).1:=by
 unfold doP
 repeat' split
 ·exact Kd.refl _
 ·exact Kd.refl _
 ·exact Ypr s d
 ·exact Ygn s d
 ·exact Yft s d
 ·exact Yql s d
 ·exact Wak s d
 ·exact Yms s d
theorem Zzw:∀ (l:List Zd)(s:Zf)(i:Nat),(Yix s l i).2.2=0→Kd s (Yix s l i).1
 | [],s,_,_=>Kd.refl s
 | d::l,s,i,e=>by
  rw[Yix]at e ⊢;split at e
  ·rename_i c;rw[if_pos c];exact(Yyq s d).trans (Zzw l _ _ e)
  ·rename_i c;exact absurd e c
theorem Zyg {s:Zf}{xs:List Int}(e:(Vm s xs).2.2=0):Kd s (Vm s xs).1:=by
 unfold Vm at e ⊢;split at e
 ·rename_i c;rw[if_pos c];split at e
  ·rename_i c2;rw[if_pos c2];exact Zzw _ _ _ e
  ·rename_i c2;exact absurd e c2
 ·exact absurd e (by decide)
theorem Zwt {a b:List Zc}(h:b.map Ygu=a.map Ygu):b.length=a.length:=by
 have:=congrArg List.length h
 simpa using this
theorem Ywy {a b:List Zc}(h:b.map Ygu=a.map Ygu){j:Nat}(hj:j<a.length):(gr ZS b j).bal=(gr ZS a j).bal∧(gr ZS b j).eff=(gr ZS a j).eff∧(gr ZS b j).score=(gr ZS a j).score∧(gr ZS b j).streak=(gr ZS a j).streak∧(gr ZS b j).owner=(gr ZS a j).owner:=by
 have hl:=Zwt h;have e:=congrArg (fun l=>l[j]?) h;simp only[List.getElem?_map]at e;rw[List.getElem?_eq_getElem hj,List.getElem?_eq_getElem (by omega)]at e;simp only[Option.map_some,Option.some.injEq,Ygu,Prod.mk.injEq]at e;rw[Yl hj,Yl (by omega)];exact e
theorem chk0b:UT (List.replicate 16 0) 128=true:=by decide
theorem get0b:∀ i:Nat,i<128→Vs (List.replicate 16 0) i=false:=by decide +kernel
theorem Znq {g:ZA}(pv fv:Value)(hg:ZD h pv fv g)(hk:K (.bool (decide (g.purses.length≤100)&&decide (g.founders.length≤200))) L h):Zb Tryz.prog 10 [Ytd g pv fv] L h K:=by
 have hp:=hg.p;obtain⟨pa,pc,rfl,_⟩:=hp.open;have hf:=hg.f;obtain⟨fa,fc,rfl,_⟩:=hf.open;refine ZR Tryz.func10 rfl (rs:=[_]) rfl rfl ZY (by kernel_rfl) rfl rfl ?_;refine xx ?_;refine Z6 fun b1 nb1 zb1=>?_;(try simp only[ZU]at nb1);refine xx ?_;by_cases c1:g.purses.length≤100
 ·by_cases c2:g.founders.length≤200
  ·rw[decide_eq_true c1,decide_eq_true c2]at hk;refine xx ?_;exact ZP (ZO hk)
  ·rw[decide_eq_false c2,Bool.and_false]at hk;refine xx ?_;exact ZP (ZO hk)
 ·rw[decide_eq_false c1,Bool.false_and]at hk;refine xx ?_;exact ZP (ZO hk)
theorem Yjl {h:PH}{pv fv:Value}{g:ZA}(hg:ZD h pv fv g)(hb:Zjg g=true):YQ (Zjb g)=true:=by
 simp only[Zjg,Bool.and_eq_true,decide_eq_true_eq,List.all_eq_true,wi_iff]at hb;obtain⟨⟨⟨⟨⟨b1,b2⟩,b3⟩,b4⟩,b5⟩,b6⟩:=hb;have hpw:=hg.p.word;have hpos:∀i,0≤at0 g.purses i:=fun i=>(hpw i).1;have hbal:0≤tot (g.founders.map ZB.bal):=Yy (Vw ZB.bal g.founders fun f hf=>(hg.fo f hf).b.1);have hst:∀j,j<(Zjb g).members.length→(gr ZS (Zjb g).members j).status=2:=fun j hj=>by
  have:gr ZS (Zjb g).members j∈g.founders.map (Zez g.par):=YM hj;obtain⟨f,_,e⟩:=List.mem_map.1 this;rw[← e];rfl
 have eA:tot (VN g)=tot g.purses+tot (g.founders.map ZB.bal):=Zad _ _;have eM:(Zjb g).members.map Zc.bal=g.founders.map ZB.bal:=by
  show (g.founders.map (Zez g.par)).map Zc.bal=_;rw[List.map_map];rfl
 refine fitsT_iff.2 ⟨b1,by show wi 0 0 1073741824=true;decide,by show wi 0 0 1073741824=true;decide,?_,?_,by rfl,by rfl,?_,?_⟩
 ·simp only[VR,Bool.and_eq_true,List.all_eq_true,decide_eq_true_eq,wi_iff];refine⟨b3,fun z hz=>?_⟩;obtain⟨k,hk,rfl⟩:=List.mem_iff_getElem.1 (show z∈g.purses from hz);have:=YC hpos k;rw[Yx hk];omega
 ·simp only[Wt,Bool.and_eq_true,List.all_eq_true,decide_eq_true_eq];refine⟨⟨⟨by show (g.founders.map (Zez g.par)).length≤128;rw[List.length_map];exact b4,fun m hm=>?_⟩,?_⟩,?_⟩
  ·obtain⟨f,hf,rfl⟩:=List.mem_map.1 (show m∈g.founders.map (Zez g.par) from hm);have h1:=b5 f hf;simp only[Zxq,Bool.and_eq_true,decide_eq_true_eq,wi_iff]at h1;have hw:=Gm b1 h1.1.2;obtain⟨s1,s2⟩:=J1 b1;have f2:=Wg s2;have f3:=Ys b1;refine⟨?_,?_⟩
   ·have hsh:Uu g.par (Zez g.par f)=true:=by
     rw[Uu,if_pos (.inl rfl)];simp only[Bool.and_eq_true,decide_eq_true_eq];exact⟨⟨h1.1.2,h1.2⟩,hw⟩
    have hstd:Zmu (Zba g.par (Zez g.par f))=Zmu (Zez g.par f):=by
     simp only[Zmu,Zba,Zez,List.cons.injEq,and_true,true_and];omega
    have ho:0≤(Zez g.par f).owner∧(Zez g.par f).owner<64:=by show 0≤f.own∧f.own<64;omega
    show Vv g.par (Zez g.par f)=true;rw[Vv,decide_eq_true ho.1,decide_eq_true ho.2,decide_eq_true hstd,hsh];rfl
   ·rw[acctT_iff];show 0≤f.own∧f.own<(g.purses.length:Int);omega
  ·rw[row_iffB];exact⟨List.nodup_nil,fun z=>⟨fun hz=>(by cases hz),fun⟨j,_,hj,e⟩=>by rw[hst j hj]at e;cases e⟩⟩
  ·rw[row_iffB];exact⟨List.nodup_nil,fun z=>⟨fun hz=>(by cases hz),fun⟨j,_,hj,e⟩=>by rw[hst j hj]at e;cases e⟩⟩
 ·simp only[Jm,Zhv,Bool.and_eq_true,List.all_eq_true,decide_eq_true_eq];refine⟨⟨⟨by show (0:Nat)≤8;decide,chk0b⟩,fun b hb=>(by cases hb)⟩,fun i hi=>?_⟩;rw[Bool.or_eq_true,Bool.not_eq_true'];exact .inr (get0b i (List.mem_range.1 hi))
 ·simp only[WL,Bool.and_eq_true,decide_eq_true_eq];refine⟨⟨by show tot (VN g)+0≤g.most;omega,b2⟩,?_⟩;have e1:Zkd (Zjb g)=tot (g.founders.map ZB.bal):=by rw[Zkd,eM]
  have e2:Zmt (Zjb g)=tot g.purses:=rfl;have e3:Ga (Zjb g)=0:=rfl;have e4:Zmr (Zjb g)=0:=rfl;rw[Zpg,e1,e2,e3,e4];show tot (g.founders.map ZB.bal)+tot g.purses+0+0+0+0=tot (VN g)+0;omega
end Go.X

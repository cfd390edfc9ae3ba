/- Lemmas and contracts for a statement about the given program. Conditions: as each says. -/
import Derived.Shelf.Spec.BitsCarry
import Derived.Test.YtmmfajokfdaokaaGreatQ01
import Derived.Test.YtmmfajokfdaokaaGreatQ04
import Derived.Test.YtmmfajokfdaokaaGreatQ12
import Derived.Test.YtmmfajokfdaokaaGreatQ15
import Derived.Test.YtmmfajokfdaokaaGreatQ16
import Derived.Test.YtmmfajokfdaokaaGreatQ17
set_option linter.unusedVariables false
set_option linter.unusedSimpArgs false
set_option maxHeartbeats 12800000
set_option maxRecDepth 20000
namespace Go.X
open Go.RowKit Go.Proofs Go.Bl
variable {L:Own} {h:PH} {K:PK}
def rtK (n:Int):Nat→Int
 | 0=>0
 | k+1=>if (rtK n k+2 ^ (31-k))*(rtK n k+2 ^ (31-k))≤n then rtK n k+2 ^ (31-k) else rtK n k
def rootP (n:Int):Int:=rtK n 32
theorem rtK_ok {n:Int} (hn:0≤n∧n≤18446744073709551615):∀ k,k≤32→0≤rtK n k∧rtK n k+2 ^ (32-k)≤4294967296∧rtK n k*rtK n k≤n∧n<(rtK n k+2 ^ (32-k))*(rtK n k+2 ^ (32-k))
 | 0,_=>by
  refine ⟨Int.le_refl _,by simp [rtK],by simpa [rtK] using hn.1,?_⟩
  simp only [rtK]
  have:((0:Int)+2 ^ (32-0))*(0+2 ^ (32-0))=18446744073709551616:=by decide
  omega
 | k+1,hk=>by
  obtain ⟨a1,a2,a3,a4⟩:=rtK_ok hn k (by omega)
  have e:(2:Int) ^ (32-k)=2*2 ^ (31-k):=by
   rw [show 32-k=(31-k)+1 by omega,Int.pow_succ,Int.mul_comm]
  have e2:32-(k+1)=31-k:=by omega
  have hb:(1:Int)≤2 ^ (31-k):=Int.pow_pos (by decide)
  rw [e] at a2 a4
  rw [e2]
  simp only [rtK]
  generalize (2:Int) ^ (31-k)=b at *
  split
  ·rename_i c
   have:rtK n k+b+b=rtK n k+2*b:=by omega
   rw [this]
   exact ⟨by omega,by omega,c,a4⟩
  ·rename_i c
   exact ⟨a1,by omega,a3,by omega⟩
theorem root_ok {n:Int} (hn:0≤n∧n≤18446744073709551615):0≤rootP n∧rootP n≤4294967295∧rootP n*rootP n≤n∧n<(rootP n+1)*(rootP n+1):=by
 obtain ⟨a1,a2,a3,a4⟩:=rtK_ok hn 32 (Nat.le_refl _)
 simp only [Nat.sub_self,Int.pow_zero] at a2 a4
 exact ⟨a1,by unfold rootP; omega,a3,a4⟩
theorem root_pos {n:Int} (hn:1≤n∧n≤18446744073709551615):1≤rootP n:=by
 obtain ⟨a1,_,a3,a4⟩:=root_ok (n:=n) ⟨by omega,hn.2⟩
 apply Int.not_lt.1
 intro c
 have e:rootP n=0:=by omega
 rw [e] at a4
 omega
def riseP (a by' most:Int):Int:=min (a+by') most
def fallP (a by':Int):Int:=if by'≤a then a-by' else 0
def afterM (p:ParD) (m:MemD) (there:Bool) (mode:Int):MemD :=
 if there then { m with streak:=(if max m.streak 0<p.streak then max m.streak 0+1 else p.streak),score:=fallP m.score p.recover }
 else { m with streak:=0,score:=(if mode=3 then riseP m.score p.bias p.scoreCap else if mode=4 then riseP m.score p.biasEm p.scoreCap else m.score) }
def stepP (calm pr ac:Int):Int×Bool:=if 0<ac∧2*ac<3*pr then (0,true) else (min (max calm 0) 1073741823+1,false)
def modeP (delay calm:Int) (em:Bool):Int:=if em then 4 else if delay<calm then 3 else if 0<calm then 2 else 1
def budP (p:ParD) (ac:Int):Int:=if ac=0∨4611686018427387904<ac then 0 else dwN ac p.rate (1048576*rootP ac)
def mintP (p:ParD) (ac issued most mode:Int):Int:=if (mode=3∨mode=4)∨most<issued+budP p ac then 0 else budP p ac
def weightP (p:ParD) (m:MemD):Int:=if p.maxEff<m.eff then 0 else m.eff*(1000+p.boost*min (max m.streak 0) p.streak)
def payM (p:ParD) (m:MemD) (n:Int):MemD×Int:=({ m with bal:=m.bal+min n (fallP p.cap m.bal) },n-min n (fallP p.cap m.bal))
def fineE (p:ParD) (m:MemD) (mode:Int):Int:=if mode=3 then uqE m.eff m.score p.quot else if mode=4 then uqE m.eff m.score p.quotEm else dwE m.eff p.absent 10000
def fineQ (p:ParD) (m:MemD) (mode:Int):Int:=if mode=3 then uqN m.eff m.score p.quot else if mode=4 then uqN m.eff m.score p.quotEm else dwN m.eff p.absent 10000
def fineP (p:ParD) (m:MemD) (mode:Int):Int:=if fineE p m mode=0 then min (fineQ p m mode) m.bal else m.bal
def burnP (p:ParD) (n:Int):Int:=dwN n p.burn 10000
theorem burn_le {p:ParD} {n:Int} (hn:0≤n∧n≤18446744073709551615) (hb:0≤p.burn∧p.burn≤10000):0≤burnP p n∧burnP p n≤n∧dwE n p.burn 10000=0:=by
 have h1:n*p.burn≤n*10000:=Int.mul_le_mul_of_nonneg_left hb.2 hn.1
 have h0:=Int.mul_nonneg hn.1 hb.1
 have e:dwE n p.burn 10000=0:=by
  unfold dwE
  rw [if_neg (by decide),if_pos]
  omega
 unfold burnP dwN
 rw [if_pos e]
 omega
open Go.RowKit
theorem xcopy {P:Program} {t ty e sz:Nat} {ti:TI} (ht:P.underlying t=some (.slice e)) (hti:tI P e=some ti) (hz1:ti.size=sz) {L:Own} {h:PH} {K:PK} {b o n cap m:Nat} {src:Value} {news:List Value}
  (hs:Src L h src m news) (hnl:news.length=m*sz) (hmn:m≤n) (hk:xSet L b o news fun L'=>K (.int .i64 m) L' h) :
  xAct P (Builtin.copy_ #[t,t] ty #[.slice (some ⟨b,o,none⟩) n cap,src]) L h K:=by
 intro W hg
 obtain ⟨L',W',hK,hrun,hgd,hkp,hm,hbm⟩:=xSet_sound (P:=P) hg hk
 obtain ⟨i,d,zv,g1,g2,g3,rfl⟩:=tI_some hti
 simp only at hz1
 refine ⟨.int .i64 m,L',h,W',?_,hK,⟨hgd,Kept.mono hkp (fun x hx=>by simp at hx; subst hx; exact hbm),fun x hx=>Or.inl (by rw [← hm]; exact List.mem_map_of_mem hx)⟩⟩
 have hmin:Nat.min m n=m:=Nat.min_eq_left hmn
 rcases hs with ⟨rfl,rfl,rfl⟩ | ⟨a,c,rfl,hcells⟩
 ·simp [Builtin.copy_,run_underlying ht,Builtin.lenOf,Builtin.firstCells,sizeOf,typeInfo,g1,hrun,goInt]
 ·have hl:=run_loadCells_list (P:=P) W a news (hcells W hg)
  rw [hnl,← hz1] at hl
  simp [Builtin.copy_,run_underlying ht,Builtin.lenOf,Builtin.firstCells,sizeOf,typeInfo,g1,hmin,hl,hrun,goInt]
def NeB (a b:Nat):Prop:=a≠b
theorem NeB.symm {a b:Nat} (h:NeB a b):NeB b a:=Ne.symm h
section
variable {L:Own} {K:Value→Prop}
@[go_sem ↓] theorem xFind_missB (b b' ty o c:Nat) (cs:List Value) (hne:NeB b' b):xFind (⟨b',ty,cs,c⟩::L) b o K=xFind L b o K:=xFind_miss b b' ty o c cs hne
@[go_sem ↓] theorem xSet_missB (b b' ty o c:Nat) (cs vs:List Value) (K:Own→Prop) (hne:NeB b' b) (t:Tok K):xSet (⟨b',ty,cs,c⟩::L) b o vs K t=xSet L b o vs fun L'=>K (⟨b',ty,cs,c⟩::L'):=xSet_miss b b' ty o c cs vs K hne
end
open Go.RowKit Go.Proofs Go.Bl
variable {L:Own} {h:PH} {K:PK}
theorem sub64_any (x y:Nat) (hk:K (.tuple #[.int .u64 (((x+18446744073709551616-y)%18446744073709551616:Nat):Int),.int .u64 ((if x<y then 1 else 0:Nat):Int)]) L h):Spec Tryz.prog 330 [.int .u64 x,.int .u64 y,.int .u64 0] L h K :=
 Spec.extern (fun W=>by
  show (callFunc 330 #[.int .u64 x,.int .u64 y,.int .u64 ((0:Nat):Int)]).run Tryz.prog W=_
  rw [run_callFunc_extern Tryz.func330 (by kernel_rfl) (by kernel_rfl) (by kernel_rfl) (e:=sub64Entry) (by kernel_rfl),run_sub64 x y 0 (by decide)]
  rfl) hk
theorem msub_any (x y:Int) (hx:0≤x∧x≤18446744073709551615) (hy:0≤y∧y≤18446744073709551615) (hk:K (if y≤x then .tuple #[.int .u64 (x-y),.int .i64 0] else .tuple #[.int .u64 0,.int .i64 11]) L h):Spec Tryz.prog 260 [.int .u64 x,.int .u64 y] L h K:=by
 obtain ⟨m,rfl⟩:=Int.eq_ofNat_of_zero_le hx.1
 obtain ⟨n,rfl⟩:=Int.eq_ofNat_of_zero_le hy.1
 refine x_enter Tryz.func260 rfl (rs:=[_,_]) rfl rfl mixed (by kernel_rfl) rfl rfl ?_
 refine xx ?_
 refine sub64_any m n ?_
 by_cases c:(n:Int)≤m
 ·rw [if_pos c] at hk
  have e1:(((m+18446744073709551616-n)%18446744073709551616:Nat):Int)=m-n:=by omega
  rw [e1,if_neg (by omega)]
  refine xx ?_
  exact fin_here hk
 ·rw [if_neg c] at hk
  rw [if_pos (by omega)]
  refine xx ?_
  exact fin_here hk
theorem Nt.sl {v:Value} {n:Int} {m:Nat} (hs:Nt h v n m):∃ a k c,v = .agg #[.slice a k c]:=by
 obtain ⟨s,ds,rfl,b,_⟩:=hs
 obtain ⟨a,c,rfl,_⟩:=b.open
 exact ⟨a,_,c,rfl⟩
theorem xBin_neintsS {P:Program} {T:Nat} {ks:List IntKind} (ht:P.underlying T=some (.struct (P.fieldsOf T))) (hp:P.stoodInHeld T=false) (hg:P.eqGuardType P.depth T=false) (hok:okF P (P.fieldsOf T).toList 0 ks=true) (ps qs:List Int) (ha:ps.length=ks.length) (hb:qs.length=ks.length)
  (x y:Operand) (K:Value→Prop) (t:Tok K):xBin P .neq T x y (.agg (List.zipWith Value.int ks ps).toArray) (.agg (List.zipWith Value.int ks qs).toArray) K t=K (.bool (!decide (ps=qs))) :=
 xRun_of (fun W=>by
  simp only [Sem.run_bind,run_eqGuard_agg W .neq T x y _ _ hg,Result.andThen_ok,run_neq_struct,run_eq_ints ht hp hok ps qs ha hb W]) K
end Go.X

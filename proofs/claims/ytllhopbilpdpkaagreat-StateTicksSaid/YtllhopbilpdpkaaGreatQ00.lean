/- Lemmas and contracts. Conditions: as each says. -/
import Derived.CallsIn
import Derived.Deep.Quiet
import Derived.OrdersHeld
import Derived.WalkKit
set_option linter.unusedVariables false
set_option linter.unusedSimpArgs false
set_option maxHeartbeats 12800000
set_option maxRecDepth 20000
namespace Go
theorem xe {P Q:Prop}(q:Q)(h:P=Q:=by conv=>lhs;simp -dsimp -implicitDefEqProofs (disch:=first|exact dD|fail) [go_sem,idx hcs]):P:=Eq.mpr h q
theorem xg {P Q:Prop}(q:Q)(h:P=Q:=by conv=>lhs;simp -dsimp -implicitDefEqProofs (disch:=first|exact dD|fail) [go_sem,idx hcx,idx hcy]):P:=Eq.mpr h q
theorem xh {P Q:Prop}(q:Q)(h:P=Q:=by conv=>lhs;simp -dsimp -implicitDefEqProofs (disch:=first|exact dD|fail) [go_sem,↓Us ZQ qh hd,YD]):P:=Eq.mpr h q
theorem xm {P Q:Prop}(q:Q)(h:P=Q:=by conv=>lhs;simp -dsimp -implicitDefEqProofs (disch:=first|exact dD|fail) [go_sem,YD]):P:=Eq.mpr h q
theorem xn {P Q:Prop}(q:Q)(h:P=Q:=by conv=>lhs;simp -dsimp -implicitDefEqProofs (disch:=first|exact dD|fail) [go_sem,↓Us Yg qh hd,UK]):P:=Eq.mpr h q
theorem xq {P Q:Prop}(q:Q)(h:P=Q:=by conv=>lhs;simp -dsimp -implicitDefEqProofs (disch:=first|exact dD|fail) [go_sem,UK]):P:=Eq.mpr h q
theorem xu {P Q:Prop}(q:Q)(h:P=Q:=by conv=>lhs;simp -dsimp -implicitDefEqProofs (disch:=first|exact dD|fail) [go_sem,↓Us ZT qh hd,Yh]):P:=Eq.mpr h q
theorem xw {P Q:Prop}(q:Q)(h:P=Q:=by conv=>lhs;simp -dsimp -implicitDefEqProofs (disch:=first|exact dD|fail) [go_sem,Yh]):P:=Eq.mpr h q
theorem xy {P Q:Prop}(q:Q)(h:P=Q:=by conv=>lhs;simp -dsimp -implicitDefEqProofs (disch:=first|exact dD|fail) [go_sem,↓Us Z0 qh hd,YQ]):P:=Eq.mpr h q
theorem xA {P Q:Prop}(q:Q)(h:P=Q:=by conv=>lhs;simp -dsimp -implicitDefEqProofs (disch:=first|exact dD|fail) [go_sem,YQ,hv1,hv2]):P:=Eq.mpr h q
theorem xB {P Q:Prop}(q:Q)(h:P=Q:=by conv=>lhs;simp -dsimp -implicitDefEqProofs (disch:=first|exact dD|fail) [go_sem,ek]):P:=Eq.mpr h q
theorem xE {P Q:Prop}(q:Q)(h:P=Q:=by conv=>lhs;simp -dsimp -implicitDefEqProofs (disch:=first|exact dD|fail) [go_sem,W5]):P:=Eq.mpr h q
theorem xF {P Q:Prop}(q:Q)(h:P=Q:=by conv=>lhs;simp -dsimp -implicitDefEqProofs (disch:=first|exact dD|fail) [go_sem,hp]):P:=Eq.mpr h q
theorem xH {P Q:Prop}(q:Q)(h:P=Q:=by conv=>lhs;simp -dsimp -implicitDefEqProofs (disch:=first|exact dD|fail) [go_sem,hm]):P:=Eq.mpr h q
theorem xI {P Q:Prop}(q:Q)(h:P=Q:=by conv=>lhs;simp -dsimp -implicitDefEqProofs (disch:=first|exact dD|fail) [go_sem,↓Us Yg qh ho,UK]):P:=Eq.mpr h q
theorem xJ {P Q:Prop}(q:Q)(h:P=Q:=by conv=>lhs;simp -dsimp -implicitDefEqProofs (disch:=first|exact dD|fail) [go_sem,↓Us ZT qh hd,e1]):P:=Eq.mpr h q
theorem xK {P Q:Prop}(q:Q)(h:P=Q:=by conv=>lhs;simp -dsimp -implicitDefEqProofs (disch:=first|exact dD|fail) [go_sem,idx hcr',hv1]):P:=Eq.mpr h q
theorem xM {P Q:Prop}(q:Q)(h:P=Q:=by conv=>lhs;simp -dsimp -implicitDefEqProofs (disch:=first|exact dD|fail) [go_sem,ZR m1]):P:=Eq.mpr h q
theorem xN {P Q:Prop}(q:Q)(h:P=Q:=by conv=>lhs;simp -dsimp -implicitDefEqProofs (disch:=first|exact dD|fail) [go_sem,ZX m1a,ZX m2a,ZR m1a,ZR m2a,ZR m1b,ZR m2b]):P:=Eq.mpr h q
theorem xO {P Q:Prop}(q:Q)(h:P=Q:=by conv=>lhs;simp -dsimp -implicitDefEqProofs (disch:=first|exact dD|fail) [go_sem,ZX m2a,ZR m2a,ZR m2b]):P:=Eq.mpr h q
theorem xP {P Q:Prop}(q:Q)(h:P=Q:=by conv=>lhs;simp -dsimp -implicitDefEqProofs (disch:=first|exact dD|fail) [go_sem,IntKind.bits]):P:=Eq.mpr h q
theorem xQ {P Q:Prop}(q:Q)(h:P=Q:=by conv=>lhs;simp -dsimp -implicitDefEqProofs (disch:=first|exact dD|fail) [go_sem,hq,W1]):P:=Eq.mpr h q
theorem xR {P Q:Prop}(q:Q)(h:P=Q:=by conv=>lhs;simp -dsimp -implicitDefEqProofs (disch:=first|exact dD|fail) [go_sem,ZR m2,ZR m1,W5,eN]):P:=Eq.mpr h q
theorem xU {P Q:Prop}(q:Q)(h:P=Q:=by conv=>lhs;simp -dsimp -implicitDefEqProofs (disch:=first|exact dD|fail) [go_sem,ZR m2,ZR m1]):P:=Eq.mpr h q
theorem xW {P Q:Prop}(q:Q)(h:P=Q:=by conv=>lhs;simp -dsimp -implicitDefEqProofs (disch:=first|exact dD|fail) [go_sem,<- ht]):P:=Eq.mpr h q
theorem xX {P Q:Prop}(q:Q)(h:P=Q:=by conv=>lhs;simp -dsimp -implicitDefEqProofs (disch:=first|exact dD|fail) [go_sem,ZR m3,ZR m2,ZR m1]):P:=Eq.mpr h q
theorem xY {P Q:Prop}(q:Q)(h:P=Q:=by conv=>lhs;simp -dsimp -implicitDefEqProofs (disch:=first|exact dD|fail) [go_sem,ZX m3']):P:=Eq.mpr h q
theorem xZ {P Q:Prop}(q:Q)(h:P=Q:=by conv=>lhs;simp -dsimp -implicitDefEqProofs (disch:=first|exact dD|fail) [go_sem,idx hcx',ei,<- hdd]):P:=Eq.mpr h q
theorem fA {P Q:Prop}(q:Q)(h:P=Q:=by conv=>lhs;simp -dsimp -implicitDefEqProofs (disch:=first|exact dD|fail) [go_sem,hh]):P:=Eq.mpr h q
theorem fB {P Q:Prop}(q:Q)(h:P=Q:=by conv=>lhs;simp -dsimp -implicitDefEqProofs (disch:=first|exact dD|fail) [go_sem,<- hz]):P:=Eq.mpr h q
theorem fC {P Q:Prop}(q:Q)(h:P=Q:=by conv=>lhs;simp -dsimp -implicitDefEqProofs (disch:=first|exact dD|fail) [go_sem,ZX m1,ZR m1]):P:=Eq.mpr h q
theorem fD {P Q:Prop}(q:Q)(h:P=Q:=by conv=>lhs;simp -dsimp -implicitDefEqProofs (disch:=first|exact dD|fail) [go_sem,ZX x1,ZR x1,ZX m1,ZR m1]):P:=Eq.mpr h q
theorem fE {P Q:Prop}(q:Q)(h:P=Q:=by conv=>lhs;simp -dsimp -implicitDefEqProofs (disch:=first|exact dD|fail) [go_sem,ZX t1,ZR t1,ZX x1,ZR x1,ZX m1,ZR m1]):P:=Eq.mpr h q
theorem fF {P Q:Prop}(q:Q)(h:P=Q:=by conv=>lhs;simp -dsimp -implicitDefEqProofs (disch:=first|exact dD|fail) [go_sem,ovs,oent]):P:=Eq.mpr h q
theorem fG {P Q:Prop}(q:Q)(h:P=Q:=by conv=>lhs;simp -dsimp -implicitDefEqProofs (disch:=first|exact dD|fail) [go_sem,c6]):P:=Eq.mpr h q
theorem fH {P Q:Prop}(q:Q)(h:P=Q:=by conv=>lhs;simp -dsimp -implicitDefEqProofs (disch:=first|exact dD|fail) [go_sem,↓Us ZQ qh hm]):P:=Eq.mpr h q
theorem fJ {P Q:Prop}(q:Q)(h:P=Q:=by conv=>lhs;simp -dsimp -implicitDefEqProofs (disch:=first|exact dD|fail) [go_sem,Vd]):P:=Eq.mpr h q
theorem fK {P Q:Prop}(q:Q)(h:P=Q:=by conv=>lhs;simp -dsimp -implicitDefEqProofs (disch:=first|exact dD|fail) [go_sem,Ymq Yqu]):P:=Eq.mpr h q
theorem fM {P Q:Prop}(q:Q)(h:P=Q:=by conv=>lhs;simp -dsimp -implicitDefEqProofs (disch:=first|exact dD|fail) [go_sem,↓Us ZT qh hd]):P:=Eq.mpr h q
theorem fO {P Q:Prop}(q:Q)(h:P=Q:=by conv=>lhs;simp -dsimp -implicitDefEqProofs (disch:=first|exact dD|fail) [go_sem,idx hcp]):P:=Eq.mpr h q
theorem fP {P Q:Prop}(q:Q)(h:P=Q:=by conv=>lhs;simp -dsimp -implicitDefEqProofs (disch:=first|exact dD|fail) [go_sem,↓Us ZQ qh hd,YD,↓fe]):P:=Eq.mpr h q
theorem fQ {P Q:Prop}(q:Q)(h:P=Q:=by conv=>lhs;simp -dsimp -implicitDefEqProofs (disch:=first|exact dD|fail) [go_sem,↓Us ZT qh hcs,Yh]):P:=Eq.mpr h q
theorem fU {P Q:Prop}(q:Q)(h:P=Q:=by conv=>lhs;simp -dsimp -implicitDefEqProofs (disch:=first|exact dD|fail) [go_sem,idx hcs2,hlen]):P:=Eq.mpr h q
theorem fV {P Q:Prop}(q:Q)(h:P=Q:=by conv=>lhs;simp -dsimp -implicitDefEqProofs (disch:=first|exact dD|fail) [go_sem,ht]):P:=Eq.mpr h q
theorem fZ {P Q:Prop}(q:Q)(h:P=Q:=by conv=>lhs;simp -dsimp -implicitDefEqProofs (disch:=first|exact dD|fail) [go_sem,↓Us Z0 qh hd,g30,g29,g1]):P:=Eq.mpr h q
theorem lg {P Q:Prop}(q:Q)(h:P=Q:=by conv=>lhs;simp -dsimp -implicitDefEqProofs (disch:=first|exact dD|fail) [go_sem,Zaz Ych]):P:=Eq.mpr h q
theorem lh {P Q:Prop}(q:Q)(h:P=Q:=by conv=>lhs;simp -dsimp -implicitDefEqProofs (disch:=first|exact dD|fail) [go_sem,Zaz Ych,cut1,cut3]):P:=Eq.mpr h q
theorem lm {P Q:Prop}(q:Q)(h:P=Q:=by conv=>lhs;simp -dsimp -implicitDefEqProofs (disch:=first|exact dD|fail) [go_sem,honeB,hBl,hw1]):P:=Eq.mpr h q
theorem lq {P Q:Prop}(q:Q)(h:P=Q:=by conv=>lhs;simp -dsimp -implicitDefEqProofs (disch:=first|exact dD|fail) [go_sem,ZR n3]):P:=Eq.mpr h q
theorem lu {P Q:Prop}(q:Q)(h:P=Q:=by conv=>lhs;simp -dsimp -implicitDefEqProofs (disch:=first|exact dD|fail) [go_sem,g1,Yh]):P:=Eq.mpr h q
theorem lz {P Q:Prop}(q:Q)(h:P=Q:=by conv=>lhs;simp -dsimp -implicitDefEqProofs (disch:=first|exact dD|fail) [go_sem,g30]):P:=Eq.mpr h q
theorem lC {P Q:Prop}(q:Q)(h:P=Q:=by conv=>lhs;simp -dsimp -implicitDefEqProofs (disch:=first|exact dD|fail) [go_sem,idx hcx]):P:=Eq.mpr h q
theorem lD {P Q:Prop}(q:Q)(h:P=Q:=by conv=>lhs;simp -dsimp -implicitDefEqProofs (disch:=first|exact dD|fail) [go_sem,g0,g1,g2,Yh]):P:=Eq.mpr h q
theorem lF {P Q:Prop}(q:Q)(h:P=Q:=by conv=>lhs;simp -dsimp -implicitDefEqProofs (disch:=first|exact dD|fail) [go_sem,ZR n3,↓Us ZT qh hvR,f1,Yh]):P:=Eq.mpr h q
theorem lG {P Q:Prop}(q:Q)(h:P=Q:=by conv=>lhs;simp -dsimp -implicitDefEqProofs (disch:=first|exact dD|fail) [go_sem,hm,g0,g1,g2,g3,g4,g5]):P:=Eq.mpr h q
theorem lH {P Q:Prop}(q:Q)(h:P=Q:=by conv=>lhs;simp -dsimp -implicitDefEqProofs (disch:=first|exact dD|fail) [go_sem,ho]):P:=Eq.mpr h q
theorem lI {P Q:Prop}(q:Q)(h:P=Q:=by conv=>lhs;simp -dsimp -implicitDefEqProofs (disch:=first|exact dD|fail) [go_sem,g0,g1,g2,g3]):P:=Eq.mpr h q
theorem lJ {P Q:Prop}(q:Q)(h:P=Q:=by conv=>lhs;simp -dsimp -implicitDefEqProofs (disch:=first|exact dD|fail) [go_sem,r0,r1]):P:=Eq.mpr h q
theorem lL {P Q:Prop}(q:Q)(h:P=Q:=by conv=>lhs;simp -dsimp -implicitDefEqProofs (disch:=first|exact dD|fail) [go_sem,idx hws2]):P:=Eq.mpr h q
theorem lM {P Q:Prop}(q:Q)(h:P=Q:=by conv=>lhs;simp -dsimp -implicitDefEqProofs (disch:=first|exact dD|fail) [go_sem,em]):P:=Eq.mpr h q
theorem lN {P Q:Prop}(q:Q)(h:P=Q:=by conv=>lhs;simp -dsimp -implicitDefEqProofs (disch:=first|exact dD|fail) [go_sem,g5]):P:=Eq.mpr h q
theorem lQ {P Q:Prop}(q:Q)(h:P=Q:=by conv=>lhs;simp -dsimp -implicitDefEqProofs (disch:=first|exact dD|fail) [go_sem,idx hws4]):P:=Eq.mpr h q
theorem lS {P Q:Prop}(q:Q)(h:P=Q:=by conv=>lhs;simp -dsimp -implicitDefEqProofs (disch:=first|exact dD|fail) [go_sem,g29,g30,s1]):P:=Eq.mpr h q
theorem lT {P Q:Prop}(q:Q)(h:P=Q:=by conv=>lhs;simp -dsimp -implicitDefEqProofs (disch:=first|exact dD|fail) [go_sem,w3]):P:=Eq.mpr h q
theorem lU {P Q:Prop}(q:Q)(h:P=Q:=by conv=>lhs;simp -dsimp -implicitDefEqProofs (disch:=first|exact dD|fail) [go_sem,w4]):P:=Eq.mpr h q
theorem lV {P Q:Prop}(q:Q)(h:P=Q:=by conv=>lhs;simp -dsimp -implicitDefEqProofs (disch:=first|exact dD|fail) [go_sem,w1]):P:=Eq.mpr h q
theorem lW {P Q:Prop}(q:Q)(h:P=Q:=by conv=>lhs;simp -dsimp -implicitDefEqProofs (disch:=first|exact dD|fail) [go_sem,w2]):P:=Eq.mpr h q
theorem lX {P Q:Prop}(q:Q)(h:P=Q:=by conv=>lhs;simp -dsimp -implicitDefEqProofs (disch:=first|exact dD|fail) [go_sem,f0,f1,f2,f3,f4,f5]):P:=Eq.mpr h q
theorem lY {P Q:Prop}(q:Q)(h:P=Q:=by conv=>lhs;simp -dsimp -implicitDefEqProofs (disch:=first|exact dD|fail) [go_sem,ZX x1,ZR x1,ZX e1,ZR e1,ZX m1,ZR m1]):P:=Eq.mpr h q
theorem lZ {P Q:Prop}(q:Q)(h:P=Q:=by conv=>lhs;simp -dsimp -implicitDefEqProofs (disch:=first|exact dD|fail) [go_sem,ZX t1,ZR t1,ZX x1,ZR x1,ZX e1,ZR e1,ZX m1,ZR m1]):P:=Eq.mpr h q
theorem l7 {P Q:Prop}(q:Q)(h:P=Q:=by conv=>lhs;simp -dsimp -implicitDefEqProofs (disch:=first|exact dD|fail) [go_sem,YQ]):P:=Eq.mpr h q
theorem l9 {P Q:Prop}(q:Q)(h:P=Q:=by conv=>lhs;simp -dsimp -implicitDefEqProofs (disch:=first|exact dD|fail) [go_sem,g0,g1,g2,g3,g4,g5]):P:=Eq.mpr h q
theorem cu {P Q:Prop}(q:Q)(h:P=Q:=by conv=>lhs;simp -dsimp -implicitDefEqProofs (disch:=first|exact dD|fail) [go_sem,hl]):P:=Eq.mpr h q
theorem cO {P Q:Prop}(q:Q)(h:P=Q:=by conv=>lhs;simp -dsimp -implicitDefEqProofs (disch:=first|exact dD|fail) [go_sem,g0,g1,g2,g3,g4,g5,hj]):P:=Eq.mpr h q
theorem cZ {P Q:Prop}(q:Q)(h:P=Q:=by conv=>lhs;simp -dsimp -implicitDefEqProofs (disch:=first|exact dD|fail) [go_sem,<- hqk,YQ,Jj,List.cons_append,List.nil_append,s1]):P:=Eq.mpr h q
theorem df {P Q:Prop}(q:Q)(h:P=Q:=by conv=>lhs;simp -dsimp -implicitDefEqProofs (disch:=first|exact dD|fail) [go_sem,<- hqk,YQ,Jj,List.cons_append,List.nil_append]):P:=Eq.mpr h q
theorem dh {P Q:Prop}(q:Q)(h:P=Q:=by conv=>lhs;simp -dsimp -implicitDefEqProofs (disch:=first|exact dD|fail) [go_sem,hJ,gp]):P:=Eq.mpr h q
theorem di {P Q:Prop}(q:Q)(h:P=Q:=by conv=>lhs;simp -dsimp -implicitDefEqProofs (disch:=first|exact dD|fail) [go_sem,c3,c4]):P:=Eq.mpr h q
theorem dm {P Q:Prop}(q:Q)(h:P=Q:=by conv=>lhs;simp -dsimp -implicitDefEqProofs (disch:=first|exact dD|fail) [go_sem,idx hws4,hi]):P:=Eq.mpr h q
theorem dw {P Q:Prop}(q:Q)(h:P=Q:=by conv=>lhs;simp -dsimp -implicitDefEqProofs (disch:=first|exact dD|fail) [go_sem,idx hws3,hi]):P:=Eq.mpr h q
theorem dA {P Q:Prop}(q:Q)(h:P=Q:=by conv=>lhs;simp -dsimp -implicitDefEqProofs (disch:=first|exact dD|fail) [go_sem,idx hws5,hi]):P:=Eq.mpr h q
theorem dC {P Q:Prop}(q:Q)(h:P=Q:=by conv=>lhs;simp -dsimp -implicitDefEqProofs (disch:=first|exact dD|fail) [go_sem,c]):P:=Eq.mpr h q
theorem dD {P:Prop}(h:P:=by first|with_reducible assumption|omega):P:=h
theorem qf {P:Prop}(h:P:=by omega):P:=h
theorem qg {P:Prop}(h:P:=by kernel_rfl):P:=h
theorem qh {P:Prop}(h:P:=by decide):P:=h
theorem qi {P:Prop}(h:P:=by simp [Ent,List.lookup]):P:=h
theorem qj {P:Prop}(h:P:=by simp):P:=h
theorem qm {P:Prop}(h:P:=by simp [maxLen];omega):P:=h
theorem qp {P:Prop}(h:P:=by simp only;omega):P:=h
theorem qw {P:Prop}(h:P:=by simp at hu;subst hu;rfl):P:=h
theorem qx {P:Prop}(h:P:=by simp [Ent,List.lookup,YT]):P:=h
theorem qy {P:Prop}(h:P:=by intro u hu;simp only[List.mem_singleton]at hu;subst hu;rfl):P:=h
theorem qA {P:Prop}(h:P:=by simpa using hk):P:=h
theorem qB {P:Prop}(h:P:=by simp [WZ]):P:=h
theorem qC {P:Prop}(h:P:=by simpa [c] using hk):P:=h
theorem qE {P:Prop}(h:P:=by decide +kernel):P:=h
theorem qF {P:Prop}(h:P:=by simp;omega):P:=h
theorem qG {P:Prop}(h:P:=by rw[Ye c1];exact List.getElem_mem c1):P:=h
theorem qH {P:Prop}(h:P:=by first|exact List.mem_cons_self|exact List.mem_cons_of_mem _ List.mem_cons_self):P:=h
theorem qI {P:Prop}(h:P:=by rw[List.length_map];omega):P:=h
theorem qJ {P:Prop}(h:P:=by simp only[List.length_append,List.length_singleton];omega):P:=h
theorem qK {P:Prop}(h:P:=by simp [Ent,List.lookup,hs]):P:=h
theorem qL {P:Prop}(h:P:=by cases h):P:=h
theorem qM {P:Prop}(h:P:=by rw[<- hqk];rfl):P:=h
theorem qN {P:Prop}(h:P:=by simp only[YY,WU,e,Bool.and_false,Bool.false_and]):P:=h
theorem qO {P:Prop}(h:P:=by simpa using h1):P:=h
theorem qP {P:Prop}(h:P:=by simpa using ha):P:=h
theorem qQ {P:Prop}(h:P:=by rw[Ye c1,List.take_succ_eq_append_getElem c1]):P:=h
theorem qR {P:Prop}(h:P:=by simp [Ent,List.lookup,hsl]):P:=h
theorem qT {P:Prop}(h:P:=by simp only[List.length_set];exact h.n):P:=h
theorem qU {P:Prop}(h:P:=by simp only[YY,J1,Ziw,e,Bool.and_false,Bool.false_and]):P:=h
theorem qV {P:Prop}(h:P:=by simpa [Jf] using c2):P:=h
theorem qW {P:Prop}(h:P:=by rw[<- hq,List.length_map]):P:=h
theorem qX {P:Prop}(h:P:=by rw[Wr];simp [binOp,Op.intCmp,pure]):P:=h
theorem qY {P:Prop}(h:P:=by simpa using hk0):P:=h
theorem qZ {P:Prop}(h:P:=by rw[hMl2];exact okm'):P:=h
theorem zf {P:Prop}(h:P:=by simpa using j1):P:=h
theorem zg {P:Prop}(h:P:=by rw[List.length_set];omega):P:=h
theorem zh {P:Prop}(h:P:=by cases hx):P:=h
theorem zi {P:Prop}(h:P:=by simp only[List.length_append,List.length_take];omega):P:=h
theorem zk {P:Prop}(h:P:=by simp [Pl.heads]at hi):P:=h
theorem zl {P:Prop}(h:P:=by simpa [c1] using hk):P:=h
theorem zn {P:Prop}(h:P:=by simpa using hi):P:=h
theorem zo {P:Prop}(h:P:=by simp only[YY,e,Bool.and_false,Bool.false_and]):P:=h
theorem zq {P:Prop}(h:P:=by rw[Z1 Ya,hql']):P:=h
theorem zt {P:Prop}(h:P:=by rw[<- hx];rfl):P:=h
theorem zu {P:Prop}(h:P:=by simp only;rw[Zjv,eq6,hcs,e1]):P:=h
theorem zx {P:Prop}(h:P:=by simp only[hs];exact Za.refl _ _):P:=h
theorem zy {P:Prop}(h:P:=by rw[<- List.length_flatMap,Z1 Ya]):P:=h
theorem zA {P:Prop}(h:P:=by simpa [VJ,c1,c2,c3] using hk):P:=h
theorem zB {P:Prop}(h:P:=by simp [Zij,wi];omega):P:=h
theorem zC {P:Prop}(h:P:=by simpa using hj):P:=h
theorem zD {P:Prop}(h:P:=by simp [Ut,c2]):P:=h
theorem zF {P:Prop}(h:P:=by rw[<- t2,List.length_map]):P:=h
theorem zG {P:Prop}(h:P:=by rw[hsl];exact i1):P:=h
theorem zH {P:Prop}(h:P:=by simp at hx;subst hx;exact hbm):P:=h
theorem zI {P:Prop}(h:P:=by rw[<- List.length_flatMap,hfl]):P:=h
theorem zJ {P:Prop}(h:P:=by rw[hs];exact j2):P:=h
theorem zK {P:Prop}(h:P:=by simpa [c1,c2] using hk):P:=h
theorem zL {P:Prop}(h:P:=by rw[eK3];simpa using j1):P:=h
theorem zM {P:Prop}(h:P:=by rw[<- hmm];exact List.mem_map_of_mem hx):P:=h
theorem zN {P:Prop}(h:P:=by simpa using Za.tail _ _ _):P:=h
theorem zO {P:Prop}(h:P:=by rw[ro7.2.2.1]at hz;cases hz):P:=h
theorem zQ {P:Prop}(h:P:=by rw[if_pos hki];exact⟨hS,H⟩):P:=h
theorem zS {P:Prop}(h:P:=by simp [Region.wanted]):P:=h
theorem zT {P:Prop}(h:P:=by simp only[hs];exact Za.tail _ _ _):P:=h
theorem zU {P:Prop}(h:P:=by rw[List.map_set]):P:=h
theorem zV {P:Prop}(h:P:=by rw[hps];exact hk):P:=h
theorem zW {P:Prop}(h:P:=by rw[eK3];exact e5):P:=h
theorem zX {P:Prop}(h:P:=by simp [maxLen]):P:=h
theorem zY {P:Prop}(h:P:=by rw[Z1 hd.len,hlt]):P:=h
theorem zZ {P:Prop}(h:P:=by simp [Zap,c2,c3,c5,c6]):P:=h
theorem wo {P:Prop}(h:P:=by rw[s1];exact e4):P:=h
theorem wu {P:Prop}(h:P:=by rw[hmm];exact Yp hIl):P:=h
theorem ww {P:Prop}(h:P:=by simpa using c2):P:=h
theorem wz {P:Prop}(h:P:=by show n-(k+1)<n-k;omega):P:=h
theorem wB {P:Prop}(h:P:=by rw[<- ro9.2.2];exact hz):P:=h
theorem wC {P:Prop}(h:P:=by obtain⟨_,_,rfl,_⟩:=g1.open;rfl):P:=h
theorem wE {P:Prop}(h:P:=by simp [hx]):P:=h
theorem wF {P:Prop}(h:P:=by simp only at hj;omega):P:=h
theorem wG {P:Prop}(h:P:=by simp [Yt]):P:=h
theorem wH {P:Prop}(h:P:=by rw[hs1];exact i2):P:=h
theorem wI {P:Prop}(h:P:=by rw[hn];exact okm):P:=h
theorem wJ {P:Prop}(h:P:=by have:=obE z hz;omega):P:=h
theorem wK {P:Prop}(h:P:=by rw[h]at hr;cases hr):P:=h
theorem wL {P:Prop}(h:P:=by rw[ro7.1];exact ob5):P:=h
theorem wM {P:Prop}(h:P:=by rw[lenS];exact okmE):P:=h
theorem wO {P:Prop}(h:P:=by simpa using hT):P:=h
theorem wP {P:Prop}(h:P:=by simpa using es):P:=h
theorem wQ {P:Prop}(h:P:=by rw[List.drop_eq_getElem_cons qf,Ys qf]):P:=h
theorem wR {P:Prop}(h:P:=by rw[<- Ys qf];exact List.getElem_mem _):P:=h
theorem wS {P:Prop}(h:P:=by rw[<- Ys qf];exact List.getElem_mem qf):P:=h
theorem wT {P:Prop}(h:P:=by rw[Ye zg,List.getElem_set_self];rfl):P:=h
end Go
namespace Go.X
open Go.RowKit
theorem xx {P Q:Prop}(q:Q)(h:P=Q:=by conv=>lhs;simp -dsimp -implicitDefEqProofs (disch:=first|exact dD|fail) [go_sem]):P:=Eq.mpr h q
abbrev Env:=List (Nat×Value)
class ObOf where
 o:Option Obj
instance (priority:=low) noOb:ObOf:=⟨none⟩
structure Zn where
 b:Nat
 t:TypeId
 cs:List Value
 cap:Nat
 [ob:ObOf]
abbrev Own:=List Zn
abbrev PH:=Nat->Nat->Option Value
abbrev PK:=Value->Own->PH->Prop
def noC:Nat->Option Value:=fun _=>none
structure Zm {α:Type}(_:α):Type where
structure TI where
 size:Nat
 agg:Bool
 zero:List Value
 bytes:Nat
def Zgg:TypeDesc->Bool
 | .struct _ | .array _ _=>true
 | _=>false
def tI (P:Program)(t:TypeId):Option TI :=
 match P.info? t,P.underlying t with
 | some i,some d=>match i.zero with
  | some z=>some ⟨i.size,Zgg d,z.cells.toList,i.bytes⟩
  | none=>none
 | _,_=>none
inductive Sh where
 | sl (e sz bytes:Nat)
 | ar (n e sz:Nat)
 | no
def tSh (P:Program)(t:TypeId):Sh :=
 match P.underlying t with
 | some (.slice e)=>match P.info? e with
  | some i => .sl e i.size i.bytes
  | none => .no
 | some (.array n e)=>match P.info? e with
  | some i => .ar n e i.size
  | none => .no
 | _ => .no
def Ywf (P:Program)(s f:Nat):Option Nat :=
 match P.underlying s with
 | some (.struct fs)=>match fs[f]? with
  | some fd=>match P.info? fd.type with
   | some i=>if i.size=0 then none else some fd.offset
   | none=>none
  | none=>none
 | _=>none
def xIf (b:Bool)(A B:Prop)(_:Zm A:=⟨⟩)(_:Zm B:=⟨⟩):Prop:=(b=true->A)/\(b=false->B)
def Jq {α:Type}(v:α)(K:α->Prop)(_:Zm K:=⟨⟩):Prop:=K v
def J6 (E:Env)(i:Nat)(K:Value->Prop)(_:Zm K:=⟨⟩):Prop:=∃v,E.lookup i=some v/\K v
def Wl (E:Env)(x:Operand)(K:Value->Prop)(_:Zm K:=⟨⟩):Prop :=
 match x with
 | .tmp i=>J6 E i K
 | .const v=>K v
 | .global g=>K (.pointer (some ⟨g,0,none⟩))
 | .func f=>K (.func (.func f) #[] #[])
def Uw (E:Env):List Operand->(List Value->Prop)->Prop
 | [],K=>K []
 | x::xs,K=>Wl E x fun v=>Uw E xs fun vs=>K (v::vs)
def Zrv (v:Value)(K:Bool->Prop)(_:Zm K:=⟨⟩):Prop:=∃b,v = .bool b/\K b
def Zjp (P:Program)(m:Sem Value)(K:Value->Prop)(_:Zm K:=⟨⟩):Prop:=∃v,(∀W,m.run P W = .ok v W)/\K v
def xTI (P:Program)(t:TypeId)(K:TI->Prop)(_:Zm K:=⟨⟩):Prop:=∃ti,tI P t=some ti/\K ti
def xFO (P:Program)(s f:Nat)(K:Nat->Prop)(_:Zm K:=⟨⟩):Prop:=∃o,Ywf P s f=some o/\K o
def VO (P:Program)(op:BinOp)(T:TypeId)(x y:Operand)(a b:Value)(K:Value->Prop)(_:Zm K:=⟨⟩):Prop:=Zjp P (do eqGuard op T x y a b;binOp op T a b) K
def xUn (P:Program)(op:UnOp)(a:Value)(K:Value->Prop)(_:Zm K:=⟨⟩):Prop:=Zjp P (Op.unary op a) K
def Zej (P:Program)(s d:TypeId)(a:Value)(K:Value->Prop)(_:Zm K:=⟨⟩):Prop:=Zjp P (convert s d a) K
def Yvt (P:Program)(a:Value)(i:Nat)(K:Value->Prop)(_:Zm K:=⟨⟩):Prop:=Zjp P (Instr.extract a i) K
def xFld (P:Program)(s:TypeId)(a:Value)(f:Nat)(K:Value->Prop)(_:Zm K:=⟨⟩):Prop:=Zjp P (Instr.field s a f) K
def Zkh (a:Value)(o:Nat)(K:Value->Prop)(_:Zm K:=⟨⟩):Prop:=∃p,a = .pointer (some p)/\K (.pointer (some (p.add o)))
def xFA (P:Program)(s:TypeId)(a:Value)(f:Nat)(K:Value->Prop)(_:Zm K:=⟨⟩):Prop:=xFO P s f fun o=>Zkh a o K
def xIA (s:Sh)(a i:Value)(K:Value->Prop)(_:Zm K:=⟨⟩):Prop :=
 match s with
 | .sl _ sz _=>∃q n c k j,a = .slice (some q) n c/\i = .int k j/\0<=j/\j<(n:Int)/\K (.pointer (some (q.add (j.toNat*sz))))
 | .ar n _ sz=>∃q k j,a = .pointer (some q)/\i = .int k j/\0<=j/\j<(n:Int)/\K (.pointer (some (q.add (j.toNat*sz))))
 | .no=>False
def xIx (P:Program)(t:TypeId)(a i:Value)(K:Value->Prop)(_:Zm K:=⟨⟩):Prop:=Zjp P (Instr.index t a i) K
def xSl (P:Program)(t:TypeId)(a:Value)(l h m:Option Value)(K:Value->Prop)(_:Zm K:=⟨⟩):Prop:=Zjp P (Instr.sliceAt t a l h m) K
def xMI (P:Program)(t:TypeId)(a:Value)(K:Value->Prop)(_:Zm K:=⟨⟩):Prop:=Zjp P (Instr.makeInterface t a) K
def xNC (P:Program)(a:Value)(K:Value->Prop)(_:Zm K:=⟨⟩):Prop:=(∃p,a = .pointer (some p)/\K a)\/(∃t v,a = .iface t v/\K a)\/∃name t w c,a = .func (.method name) #[.iface t w] c/\(∀W,(nilAhead (P.types.size+Made.depth) t w name).run P W = .ok (some false) W)/\K a
def xTA (P:Program)(a:Value)(s t:TypeId)(ok:Bool)(K:Value->Prop)(_:Zm K:=⟨⟩):Prop:=Zjp P (Instr.typeAssert a s t ok) K
def Zbk (P:Program)(t:TypeId)(ats:Array TypeId)(a:Value)(K:Value->Prop)(_:Zm K:=⟨⟩):Prop:=Zjp P (Builtin.len_ ats t #[a]) K
def xMM (P:Program)(mx:Bool)(ats:Array TypeId)(t:TypeId)(az:List Value)(K:Value->Prop)(_:Zm K:=⟨⟩):Prop:=Zjp P (if mx then Builtin.max_ ats t az.toArray else Builtin.min_ ats t az.toArray) K
def UI (a:Option Addr)(j:Nat):Option Addr:=a.map (·.add j)
def Jw:Own->Nat->Nat->Option Value
 | [],_,_=>none
 | e::L,b,o=>if e.b=b then (if e.t=4294967295 then none else e.cs[o]?) else Jw L b o
def Zjq (L:Own)(h:PH)(p:Option Addr)(j:Nat):Option Value :=
 match p with
 | none=>none
 | some q=>if (q.add j).spot=none then (match h (q.add j).block (q.add j).off with|some v=>some v|none=>Jw L (q.add j).block (q.add j).off) else none
def Z9 (h:PH)(a:Option Addr)(j:Nat):Option Value :=
 match a with
 | none=>none
 | some q=>if (q.add j).spot=none then h (q.add j).block (q.add j).off else none
def Zqb (v:Value)(K:Option Addr->Prop)(_:Zm K:=⟨⟩):Prop:=∃p,v = .pointer (some p)/\K (some p)
def Ymm (x:Option Value)(K:Value->Prop)(_:Zm K:=⟨⟩):Prop:=∃v,x=some v/\K v
def Um (L:Own)(h:PH)(p:Option Addr)(j:Nat)(K:Value->Prop)(_:Zm K:=⟨⟩):Prop:=Ymm (Zjq L h p j) K ⟨⟩
def Zch (L:Own)(b o:Nat)(K:Value->Prop)(_:Zm K:=⟨⟩):Prop:=∃v,Jw L b o=some v/\K v
def VE (cs:List Value)(o:Nat)(K:Value->Prop)(_:Zm K:=⟨⟩):Prop:=∃v,cs[o]?=some v/\K v
def GK (L:Own)(h:PH)(p:Option Addr):Nat->Nat->(List Value->Prop)->Prop
 | _,0,K=>K []
 | j,n+1,K=>Um L h p j fun v=>GK L h p (j+1) n fun vs=>K (v::vs)
def xLd (ti:TI)(L:Own)(h:PH)(p:Option Addr)(K:Value->Prop)(_:Zm K:=⟨⟩):Prop :=
 match ti.agg with
 | true=>GK L h p 0 ti.size fun cs=>K (.agg cs.toArray)
 | false=>Um L h p 0 K
def wr (cs:List Value)(o:Nat):List Value->List Value
 | []=>cs
 | v::vs=>wr (cs.set o v) (o+1) vs
def bPl (P:Program)(t:TypeId):Option (List Value×List (Nat×Nat)) :=
 match P.underlying t,tI P t with
 | some (.struct fs),some ti=>(fs.toList.mapM fun f=>(P.info? f.type).map fun i=>(f.offset,i.size)).map fun pl=>(ti.zero,pl)
 | some (.array n e),some ti=>(P.info? e).map fun i=>(ti.zero,(List.range n).map fun k=>(k*i.size,i.size))
 | _,_=>none
def YB (z:List Value)(pl:List (Nat×Nat)):List (Nat×Value)->(List Value->Prop)->Prop
 | [],K=>K z
 | (i,v)::ps,K=>match pl[i]? with
  | some (off,size)=>v.cells.size=size/\off+size<=z.length/\Jq (wr z off v.cells.toList) fun z'=>YB z' pl ps K
  | none=>False
def Y4 (P:Program)(t:TypeId)(ps:Array (Nat×Value))(K:Value->Prop)(_:Zm K:=⟨⟩):Prop :=
 ∃z pl,bPl P t=some (z,pl)/\YB z pl ps.toList fun z'=>K (.agg z'.toArray)
def Zci (L:Own)(b o:Nat)(vs:List Value)(K:Own->Prop)(_:Zm K:=⟨⟩):Prop :=
 match L with
 | []=>False
 | e::L=>(e.b=b->e.t≠4294967295/\o+vs.length<=e.cs.length/\vs.all Value.oneCell'=true/\K (⟨e.b,e.t,wr e.cs o vs,e.cap⟩::L))/\(e.b≠b->Zci L b o vs fun L'=>K (e::L'))
def xSt (ti:TI)(L:Own)(p:Option Addr)(v:Value)(K:Own->Prop)(_:Zm K:=⟨⟩):Prop :=
 ∃b o,p=some ⟨b,o,none⟩/\v.cells.size=ti.size/\Zci L b o v.cells.toList K
def ZS (b:Nat):Own->Prop
 | []=>True
 | e::L=>e.b≠b/\ZS b L
def Zzz (L:Own)(h:PH)(T:TypeId)(cs:List Value)(K:Nat->Own->Prop)(_:Zm K:=⟨⟩):Prop:=T≠4294967295/\∀b,ZS b L->h b=noC->K b (⟨b,T,cs,cs.length⟩::L)
def Zlw (L:Own)(h:PH)(K:Nat->Own->Prop)(_:Zm K:=⟨⟩):Prop:=∀b,ZS b L->h b=noC->K b (⟨b,4294967295,[],0⟩::L)
def bSl (P:Program)(t n:Nat):Option (TypeId×List Value×List (Nat×Nat)) :=
 match P.underlying t with
 | some (.slice e)=>match tI P e with
  | some ti=>if n*ti.size>2 ^ 24\/ti.size=0 then none else some (e,(List.range (n*ti.size)).map (fun j=>ti.zero.toArray[j%ti.zero.toArray.size]!),(List.range n).map fun i=>(i*ti.size,ti.size))
  | none=>none
 | _=>none
def xBS (P:Program)(t len:Nat)(ps:Array (Nat×Value))(K:TypeId->List Value->Prop)(_:Zm K:=⟨⟩):Prop :=
 ∃e z pl,bSl P t len=some (e,z,pl)/\YB z pl ps.toList fun cs=>K e cs
def xMS (P:Program)(t:Nat)(l c:Value)(K:TypeId->List Value->Nat->Nat->Prop)(_:Zm K:=⟨⟩):Prop :=
 ∃T cs n m,(∀W:World,(Instr.makeSlice t l c).run P W = .ok (.slice (some ⟨W.heap.size,0,none⟩) n m) (W.alloc (.cells cs T)))/\K T cs.toList n m
def BlkIs (e:Zn)(o:Option Obj):Prop :=
 if e.t=4294967295 then (match e.ob.o with|some x=>o=some x|none=>∃es ck,o=some (.map es ck)/\es.toList.map (fun x=>Value.tuple #[x.key,x.val])=e.cs)
 else ∃full,o=some (.cells full e.t (0,0))/\full.size=e.cap/\∀(i:Nat) v,e.cs[i]?=some v->full[i]?=some v
theorem BlkIs.cells {e:Zn}{o:Option Obj}(h:BlkIs e o)(ht:e.t≠4294967295):∃full,o=some (.cells full e.t (0,0))/\full.size=e.cap/\∀(i:Nat) v,e.cs[i]?=some v->full[i]?=some v:=by
 unfold BlkIs at h;rwa [if_neg ht]at h
theorem BlkIs.map {e:Zn}{o:Option Obj}(h:BlkIs e o)(ht:e.t=4294967295)(ho:e.ob.o=none:=by rfl):∃es ck,o=some (.map es ck)/\es.toList.map (fun x=>Value.tuple #[x.key,x.val])=e.cs:=by
 unfold BlkIs at h;rwa [if_pos ht,ho]at h
theorem BlkIs.at {e:Zn}{o:Option Obj}(h:BlkIs e o)(ht:e.t=4294967295){x:Obj}(ho:e.ob.o=some x):o=some x:=by
 unfold BlkIs at h;rwa [if_pos ht,ho]at h
theorem BlkIs.mk {e:Zn}{o:Option Obj}(ht:e.t≠4294967295)(h:∃full,o=some (.cells full e.t (0,0))/\full.size=e.cap/\∀(i:Nat) v,e.cs[i]?=some v->full[i]?=some v):BlkIs e o:=by
 unfold BlkIs;rwa [if_neg ht]
theorem BlkIs.mkMap {e:Zn}{o:Option Obj}(ht:e.t=4294967295)(h:∃es ck,o=some (.map es ck)/\es.toList.map (fun x=>Value.tuple #[x.key,x.val])=e.cs)(ho:e.ob.o=none:=by rfl):BlkIs e o:=by
 unfold BlkIs;rwa [if_pos ht,ho]
theorem BlkIs.mkAt {e:Zn}{o:Option Obj}(ht:e.t=4294967295){x:Obj}(ho:e.ob.o=some x)(h:o=some x):BlkIs e o:=by
 unfold BlkIs;rwa [if_pos ht,ho]
theorem BlkIs.some {e:Zn}{o:Option Obj}(h:BlkIs e o):o≠none:=by
 unfold BlkIs at h;split at h
 ·split at h
  ·rw[h];simp
  ·obtain⟨_,_,h,_⟩:=h;rw[h];simp
 ·obtain⟨_,h,_⟩:=h;rw[h];simp
structure Zo (L:Own)(h:PH)(W:World):Prop where
 sub:∀b o v,h b o=some v->W.cell? ⟨b,o,none⟩=some v
 own:∀e∈L,BlkIs e W.heap[e.b]?
 nodup:(L.map Zn.b).Nodup
 apart:∀e∈L,h e.b=noC
structure Zv (M:List Nat)(W W':World):Prop where
 os:W'.os=W.os
 tape:W'.tape=W.tape
 output:W'.output=W.output
 size:W.heap.size<=W'.heap.size
 block:∀k,k<W.heap.size->k ∉ M->W'.heap[k]?=W.heap[k]?
def Step (L:Own)(W:World)(L':Own)(h':PH)(W':World):Prop :=
 Zo L' h' W'/\Zv (L.map Zn.b) W W'/\∀e∈L',e.b∈L.map Zn.b\/W.heap.size<=e.b
def UN (P : Program) (f : FuncId) : Prop := ∃ fn, P.funcs[f]? = some fn ∧ (fn.name == "runtime.NumGoroutine") = false ∧ fn.body.isNone = false
def XCalls (P:Program)(f:FuncId)(args:Array Value)(W:World)(R:Ending->World->Prop):Prop :=
 (UN P f/\Calls P f args W R)\/∃v,(callFunc f args).run P W = .ok (.value v) W/\R (.returned v) W
theorem XCalls.mono {P:Program}{f:FuncId}{args:Array Value}{W:World}{R R':Ending->World->Prop}(hs:XCalls P f args W R)(hk:∀e W',R e W'->R' e W'):XCalls P f args W R':=by
 rcases hs with⟨hc,hs⟩ | ⟨v,hr,hs⟩
 ·exact .inl ⟨hc,hs.mono hk⟩
 ·exact .inr ⟨v,hr,hk _ _ hs⟩
def Zb (P:Program)(f:FuncId)(args:List Value)(L:Own)(h:PH)(K:PK):Prop :=
 True/\∀W,Zo L h W->XCalls P f args.toArray W fun e W'=>∃r L' h',e = .returned r/\K r L' h'/\Step L W L' h' W'
def WW (P:Program)(f:FuncId)(args:List Value)(L:Own)(h:PH)(K:PK)(_:Zm K:=⟨⟩):Prop:=Zb P f args L h K
def Yeb (P:Program)(m:Sem Value)(L:Own)(h:PH)(K:Value->Prop)(_:Zm K:=⟨⟩):Prop:=∃v,(∀W,Zo L h W->m.run P W = .ok v W)/\K v
def xDo (P:Program)(m:Sem Unit)(L:Own)(h:PH)(K:Own->PH->Prop)(_:Zm K:=⟨⟩):Prop :=
 ∀W,Zo L h W->∃L' h' W',m.run P W = .ok () W'/\K L' h'/\Step L W L' h' W'
def Zii (P:Program)(m:Sem Value)(L:Own)(h:PH)(K:PK)(_:Zm K:=⟨⟩):Prop :=
 ∀W,Zo L h W->∃r L' h' W',m.run P W = .ok r W'/\K r L' h'/\Step L W L' h' W'
def Zfc (P:Program)(fv:Value)(vs:List Value)(L:Own)(h:PH)(K:PK)(_:Zm K:=⟨⟩):Prop :=
 ∃f first cap,fv = .func (.func f) first cap/\WW P f (first.toList++vs++cap.toList) L h K ⟨⟩
def Yse (P:Program)(rv:Value)(name:String)(vs:List Value)(L:Own)(h:PH)(K:PK)(_:Zm K:=⟨⟩):Prop :=
 ∃t w f u,rv = .iface t w/\(∀W,(method (P.types.size+Made.depth) t w name).run P W = .ok (f,u) W)/\WW P f (u::vs) L h K ⟨⟩
def YSpec (P:Program)(l:Nat)(args:List Value)(L:Own)(h:PH)(K:PK):Prop :=
 True/\∀W,Zo L h W->∃fn tmps assign body,(Instr.yield l args.toArray).run P W = .ok (.round l fn tmps assign body) W /\
  RoundIn Fence.wide 0 P l fn tmps assign body W fun e W'=>∃r L' h',e = .returned r/\K r L' h'/\Step L W L' h' W'
def Yhq (P:Program)(l:Nat)(args:List Value)(L:Own)(h:PH)(K:PK)(_:Zm K:=⟨⟩):Prop:=YSpec P l args L h K
def Zri (P:Program)(fv:Value)(vs:List Value)(L:Own)(h:PH)(K:PK)(_:Zm K:=⟨⟩):Prop :=
 Zfc P fv vs L h K\/∃l,fv = .func (.yield l) #[] #[]/\Yhq P l vs L h K ⟨⟩
def UO (P:Program)(b:Builtin)(ats:Array TypeId)(ty:TypeId)(vs:List Value)(L:Own)(h:PH)(K:PK)(_:Zm K:=⟨⟩):Prop :=
 match b with
 | .len=>∃v,vs=[v]/\Zbk P ty ats v fun r=>Jq r (fun r=>K r L h) ⟨⟩
 | .max=>xMM P true ats ty vs fun r=>Jq r (fun r=>K r L h) ⟨⟩
 | .min=>xMM P false ats ty vs fun r=>Jq r (fun r=>K r L h) ⟨⟩
 | .append=>Zii P (Builtin.append_ ats ty vs.toArray) L h K ⟨⟩
 | .copy=>Zii P (Builtin.copy_ ats ty vs.toArray) L h K ⟨⟩
 | .clear=>Zii P (Builtin.clear_ ats ty vs.toArray) L h K ⟨⟩
 | .cap=>Zii P (Builtin.cap_ ats ty vs.toArray) L h K ⟨⟩
 | _=>False
def xCv (P:Program)(s d:TypeId)(a:Value)(L:Own)(h:PH)(K:PK)(_:Zm K:=⟨⟩):Prop :=
 if s=d then Zii P (convert s d a) L h K
 else if d=9 then Yeb P (convert s d a) L h fun v=>K v L h
 else Zej P s d a fun v=>Jq v (fun v=>K v L h) ⟨⟩
def Ygr (P:Program)(ty:TypeId)(ats:Array TypeId)(v:Value)(L:Own)(h:PH)(K:Value->Prop)(_:Zm K:=⟨⟩):Prop :=
 match v with
 | .map (some r)=>Yeb P (Builtin.len_ ats ty #[.map (some r)]) L h K
 | v=>Zbk P ty ats v K
def Zcf (P:Program)(b:Builtin)(ats:Array TypeId)(ty:TypeId)(vs:List Value)(L:Own)(h:PH)(K:Value->Prop)(_:Zm K:=⟨⟩):Prop :=
 match b with
 | .len=>∃v,vs=[v]/\Ygr P ty ats v L h fun r=>Jq r K ⟨⟩
 | _=>False
def Gt (E:Env):List (Nat×Operand)->(List (Nat×Value)->Prop)->Prop
 | [],K=>K []
 | (i,x)::xs,K=>Wl E x fun v=>Gt E xs fun vs=>K ((i,v)::vs)
def Zhm (E:Env):Option Operand->(Option Value->Prop)->Prop
 | none,K=>K none
 | some x,K=>Wl E x fun v=>K (some v)
def xOp (P:Program)(o:Op)(ty:TypeId)(E:Env)(L:Own)(h:PH)(K:PK)(_:Zm K:=⟨⟩):Prop :=
 match o with
 | .move x | .assign x=>Wl E x fun v=>K v L h
 | .pick c a b=>Wl E c fun v=>Zrv v fun t=>xIf t (Wl E a fun v=>K v L h) (Wl E b fun v=>K v L h) ⟨⟩ ⟨⟩
 | .binOp op T x y _=>Wl E x fun a=>Wl E y fun b=>VO P op T x y a b fun v=>Jq v (fun v=>K v L h) ⟨⟩
 | .unOp op _ x=>Wl E x fun a=>xUn P op a fun v=>Jq v (fun v=>K v L h) ⟨⟩
 | .convert s d x=>Wl E x fun a=>xCv P s d a L h K
 | .extract x i=>Wl E x fun a=>Yvt P a i fun v=>K v L h
 | .field s x f=>Wl E x fun a=>xFld P s a f fun v=>Jq v (fun v=>K v L h) ⟨⟩
 | .fieldAddr s x f=>Wl E x fun a=>xFA P s a f fun v=>Jq v (fun v=>K v L h) ⟨⟩
 | .indexAddr t x i=>Wl E x fun a=>Wl E i fun b=>xIA (tSh P t) a b (fun v=>Jq v (fun v=>K v L h) ⟨⟩) ⟨⟩
 | .index t x i=>Wl E x fun a=>Wl E i fun b=>xIx P t a b fun v=>Jq v (fun v=>K v L h) ⟨⟩
 | .slice t x lo hi mx=>Wl E x fun a=>Zhm E lo fun l=>Zhm E hi fun u=>Zhm E mx fun m=>xSl P t a l u m fun v=>Jq v (fun v=>K v L h) ⟨⟩
 | .nilCheck x=>Wl E x fun a=>xNC P a fun v=>K v L h
 | .build t ps=>Gt E ps.toList fun vs=>Y4 P t vs.toArray fun v=>Jq v (fun v=>K v L h) ⟨⟩
 | .makeInterface t x=>Wl E x fun a=>xMI P t a fun v=>K v L h
 | .makeFunc fn first cap=>Uw E first.toList fun f=>Uw E cap.toList fun c=>K (.func fn f.toArray c.toArray) L h
 | .load t x=>Wl E x fun v=>Zqb v fun p=>xTI P t fun ti=>xLd ti L h p fun v=>K v L h
 | .store t x y=>Wl E x fun v=>Wl E y fun u=>Zqb v fun p=>xTI P t fun ti=>xSt ti L p u fun L'=>K undef L' h
 | .alloc t=>xTI P t fun ti=>Zzz L h t ti.zero (fun b L'=>K (.pointer (some ⟨b,0,none⟩)) L' h) ⟨⟩
 | .box t x=>Wl E x fun v=>Zzz L h t v.cells.toList (fun b L'=>K (.pointer (some ⟨b,0,none⟩)) L' h) ⟨⟩
 | .buildSlice t n ps=>Gt E ps.toList fun vs=>xBS P t n vs.toArray fun T cs=>Zzz L h T cs (fun b L'=>K (.slice (some ⟨b,0,none⟩) n n) L' h) ⟨⟩
 | .makeSlice t l c=>Wl E l fun l=>Wl E c fun c=>xMS P t l c fun T cs n m=>Zzz L h T cs (fun b L'=>K (.slice (some ⟨b,0,none⟩) n m) L' h) ⟨⟩
 | .makeMap _ none=>Zlw L h (fun b L'=>K (.map (some b)) L' h) ⟨⟩
 | .lookup t x i ok=>Wl E x fun m=>Wl E i fun k=>Yeb P (Instr.lookup t m k ok) L h fun v=>K v L h
 | .mapUpdate t x i y=>Wl E x fun m=>Wl E i fun k=>Wl E y fun u=>xDo P (Instr.mapUpdate t m k u) L h fun L' h'=>K undef L' h'
 | .call c=>match c.callee with
  | .value f=>Wl E f fun fv=>Uw E c.args.toList fun vs=>Zfc P fv vs L h K
  | .builtin b=>Uw E c.args.toList fun vs=>UO P b c.argTypes ty vs L h K
  | .invoke r m=>Wl E r fun rv=>Uw E c.args.toList fun vs=>Yse P rv m vs L h K
 | .typeAssert x s t ok=>Wl E x fun a=>xTA P a s t ok fun v=>K v L h
 | _=>False
def JL (P:Program)(o:Op)(ty:TypeId)(E:Env)(L:Own)(h:PH)(K:PK)(_:Zm K:=⟨⟩):Prop :=
 match o with
 | .call ⟨.value f,az,_⟩=>Wl E f fun fv=>Uw E az.toList fun vs=>Zri P fv vs L h K
 | o=>xOp P o ty E L h K
def J5:List Oper->Nat->Option Tmp
 | [],_=>none
 | o::_,0=>o.dst
 | _::os,n+1=>J5 os n
def cons (d:Option Tmp)(v:Value)(E:Env):Env :=
 match d with
 | some d=>(d,v)::E
 | none=>E
def xGd (v:Value)(want:Bool)(K:Bool->Prop)(_:Zm K:=⟨⟩):Prop:=(∃b,v = .bool b/\K (b == want))\/(v=undef/\K false)
def xG (E:Env)(d:Option Tmp)(want:Bool)(K:Bool->Prop)(_:Zm K:=⟨⟩):Prop:=∃t,d=some t/\J6 E t fun v=>xGd v want K
def Zmj (P:Program)(ops:List Oper)(Q:Env->Own->PH->Prop):List Oper->Env->Own->PH->Prop
 | [],E,L,h=>Q E L h
 | o::rest,E,L,h =>
  match o.guard with
  | none=>JL P o.op o.type E L h fun v L h=>Zmj P ops Q rest (cons o.dst v E) L h
  | some (j,want)=>xG E (J5 ops j) want (fun t=>xIf t (JL P o.op o.type E L h fun v L h=>Zmj P ops Q rest (cons o.dst v E) L h) (Zmj P ops Q rest (cons o.dst undef E) L h) ⟨⟩ ⟨⟩) ⟨⟩
abbrev G5:=Exit->Env->Own->PH->Prop
def thn (k:Env->Own->PH->Prop)(Q:G5):G5:=fun e E L h =>
 match e with
 | .normal=>k E L h
 | e=>Q e E L h
def inB (id:Nat)(Q:G5):G5:=fun e E L h =>
 match e with
 | .exit i=>if i=id then Q .normal E L h else Q (.exit i) E L h
 | e=>Q e E L h
def noG (Q:G5):G5:=fun e E L h =>
 match e with
 | .goto _=>False
 | e=>Q e E L h
def Jv:Op->Bool
 | .convert s d _=>s != d
 | .move _ | .assign _ | .pick .. | .binOp .. | .unOp .. | .extract .. | .field .. | .fieldAddr .. | .indexAddr .. | .index .. | .slice .. | .nilCheck _ | .build .. | .makeFunc .. | .load .. | .lookup .. => true
 | .call c=>match c.callee with
  | .value _=>true
  | .builtin .len=>true
  | _=>false
 | _=>false
def Ybd (P:Program)(f:FuncId)(args:List Value)(L:Own)(h:PH)(K:Value->Prop)(_:Zm K:=⟨⟩):Prop :=
 ∃v,Zb P f args L h (fun v' L' h'=>v'=v/\L'=L/\h'=h)/\K v
def Zny (P:Program)(fv:Value)(vs:List Value)(L:Own)(h:PH)(K:Value->Prop)(_:Zm K:=⟨⟩):Prop :=
 ∃f first cap,fv = .func (.func f) first cap/\Ybd P f (first.toList++vs++cap.toList) L h K
def Zfh (P:Program)(o:Op)(ty:TypeId)(E:Env)(L:Own)(h:PH)(K:Value->Prop)(_:Zm K:=⟨⟩):Prop :=
 match o with
 | .call c=>match c.callee with
  | .value f=>Wl E f fun fv=>Uw E c.args.toList fun vs=>Zny P fv vs L h K
  | .builtin b=>Uw E c.args.toList fun vs=>Zcf P b c.argTypes ty vs L h K
  | .invoke _ _=>False
 | o=>xOp P o ty E L h fun v _ _=>K v
def Gq (P:Program)(ops:List Oper)(Q:Env->Prop)(L:Own)(h:PH):List Oper->Env->Prop
 | [],E=>Q E
 | o::rest,E =>
  match o.guard with
  | none=>Zfh P o.op o.type E L h fun v=>Gq P ops Q L h rest (cons o.dst v E)
  | some (j,want)=>xG E (J5 ops j) want (fun t=>xIf t (Zfh P o.op o.type E L h fun v=>Gq P ops Q L h rest (cons o.dst v E)) (Gq P ops Q L h rest (cons o.dst undef E)) ⟨⟩ ⟨⟩) ⟨⟩
def Zki:Op->Bool
 | .convert s d _=>s != d&&d != 9
 | .move _ | .assign _ | .pick .. | .binOp .. | .unOp .. | .extract .. | .field .. | .fieldAddr .. | .indexAddr .. | .index .. | .slice .. | .nilCheck _ | .build .. | .makeFunc .. => true
 | .call c=>match c.callee with
  | .builtin .len=>true
  | _=>false
 | _=>false
def Zqy:Op->Bool
 | .load .. => true
 | _=>false
def Zgq:Op->Bool
 | .store .. => true
 | _=>false
def VS (ops:Array Oper)(i:Nat):Bool:=match ops[i]? with
 | some o => !Zgq o.op
 | none=>true
def Zlr (ops:Array Oper)(l:Array Bool)(i:Nat):Bool:=(List.range ops.size).all fun j=>j == i||(l.getD j true||match ops[j]? with
 | some o => !Zgq o.op||o.after.any (fun e=>Region.binds .any e&&e.on == i)
 | none=>true)
inductive Pl where
 | fin
 | nil
 | tk (i:Nat) (t:Pl)
 | tkl (i:Nat) (t:Pl)
 | or (k:Bool) (i:Nat) (t r:Pl)
abbrev Pl.o1:=Pl.or true
abbrev Pl.o2:=Pl.or false
def Pl.heads:Pl->List Nat
 | .or _ i _ r=>i::r.heads
 | _=>[]
def Pl.ok (ops:Array Oper):Pl->Bool->Nat->Array Bool->Bool
 | .fin,top,_,l=>top&&(Region.ready .any ops l).isEmpty
 | .nil,top,_,_ => !top
 | .tk i t,top,n,l=>top&&(Region.free .any ops l i&&(Region.ready .any ops l).contains i&&((ops[i]?).map fun o=>Zki o.op).getD false&&(match n with
  | 0=>false
  | m+1=>t.ok ops true m (l.setIfInBounds i true)))
 | .tkl i t,top,n,l=>top&&(Region.free .any ops l i&&(Region.ready .any ops l).contains i&&((ops[i]?).map fun o=>Zqy o.op).getD false&&Zlr ops l i&&(match n with
  | 0=>false
  | m+1=>t.ok ops true m (l.setIfInBounds i true)))
 | .or k i t r,top,n,l=>(!top||decide (Region.ready .any ops l=i::r.heads))&&(k == VS ops i)&&(match n with
  | 0=>false
  | m+1=>t.ok ops true m (l.setIfInBounds i true))&&r.ok ops false n l
def xAt (P:Program)(ops:List Oper)(L:Own)(h:PH)(E:Env)(K:Env->Own->PH->Prop):List Oper->Nat->Prop
 | [],_=>False
 | _::os,n+1=>xAt P ops L h E K os n
 | o::_,0=>match o.guard with
  | none=>xOp P o.op o.type E L h fun v L h=>K (cons o.dst v E) L h
  | some (j,want)=>xG E (J5 ops j) want (fun t=>xIf t (xOp P o.op o.type E L h fun v L h=>K (cons o.dst v E) L h) (K (cons o.dst undef E) L h) ⟨⟩ ⟨⟩) ⟨⟩
def Kp (s:Option (Own×PH))(L:Own)(h:PH):Prop :=
 match s with
 | none=>True
 | some (L0,h0)=>∀W,Zo L h W->Zo L0 h0 W
def kS (k:Bool)(s:Option (Own×PH)):Option (Own×PH) :=
 match k with
 | true=>s
 | false=>none
def xKp (s:Option (Own×PH))(L:Own)(h:PH)(A:Prop)(_:Zm A:=⟨⟩):Prop:=Kp s L h/\A
def xPl (P:Program)(ops:List Oper)(Q:Env->Own->PH->Prop)(s:Option (Own×PH)):Pl->Env->Own->PH->Prop
 | .fin,E,L,h=>Q E L h
 | .nil,_,_,_=>True
 | .tk i t,E,L,h=>xAt P ops L h E (xPl P ops Q s t) ops i
 | .tkl i t,E,L,h=>∃L0 h0,s=some (L0,h0)/\xAt P ops L0 h0 E (fun E' _ _=>xPl P ops Q s t E' L h) ops i
 | .or k i t r,E,L,h=>xAt P ops L h E (fun E' L' h'=>xKp (kS k s) L' h' (xPl P ops Q (kS k s) t E' L' h') ⟨⟩) ops i/\xPl P ops Q s r E L h
def Ent (E:Env):Env->Prop
 | []=>True
 | (i,v)::F=>E.lookup i=some v/\Ent E F
def Za (L:Own)(h:PH)(L':Own)(h':PH):Prop:=∀W,Zo L h W->Zo L' h' W/\∀e∈L',e.b∈L.map Zn.b
def Jy (nt:Nat)(l:List Oper):Bool:=l.all fun o=>match o.dst with
 | some t=>decide (t<nt)
 | none=>true
def wfC (nt:Nat):Code->Bool
 | .region _ ops _=>Jy nt ops.toList
 | .seq a b | .cond _ a b=>wfC nt a&&wfC nt b
 | .block _ c | .loop c | .scope c=>wfC nt c
 | .rangeFunc _ ps assign body=>(ps.all fun p=>decide (p<nt))&&(wfC nt assign&&wfC nt body)
 | _=>true
abbrev Zbh (fn:Nat)(tmps:Array Value)(ps:Array Tmp)(assign body:Code)(D:Nat)(st:LoopState)(pe:Option Code):Obj :=
 .loop { state:=st,pending:=pe,fn,tmps,params:=ps,assign,body,defers:=D }
abbrev Zmi (l:Nat)(o:Obj):Zn := @Zn.mk l 4294967295 [] 0 ⟨some o⟩
def Yka (Q:G5)(E:Env)(L:Own)(h:PH):Option Code->Prop
 | none=>Q .normal E L h
 | some .ret=>Q .ret E L h
 | some (.exit id)=>Q (.exit id) E L h
 | _=>False
def Zxm (P:Program)(gv:Value)(ps:Array Tmp)(assign body:Code)(Q:G5)(E:Env)(L:Own)(h:PH):Prop :=
 ∃gf lb,gv = .func (.func gf) #[] lb/\UN P gf/\∀(l D fn:Nat) (tmps:Array Value),(∀i v,E.lookup i=some v->tmps.getD i undef=v)->(ps.all fun p=>decide (p<tmps.size))=true->wfC tmps.size assign=true->wfC tmps.size body=true->ZS l L->h l=noC ->
  Zb P gf (.func (.yield l) #[] #[]::lb.toList) (Zmi l (Zbh fn tmps ps assign body D .ready none)::L) h fun _ L' h' =>
   ∃st jump L1,L'=Zmi l (Zbh fn tmps ps assign body D st jump)::L1/\st ≠ .busy/\Yka Q E L1 h' jump
def xC (P:Program):Code->G5->Env->Own->PH->Prop
 | .skip,Q,E,L,h=>Q .normal E L h
 | .label _,Q,E,L,h=>Q .normal E L h
 | .seq a b,Q,E,L,h=>xC P a (thn (xC P b Q) Q) E L h
 | .cond c A B,Q,E,L,h=>Wl E c fun v=>Zrv v fun t=>xIf t (xC P A Q E L h) (xC P B Q E L h) ⟨⟩ ⟨⟩
 | .block id c,Q,E,L,h=>xC P c (inB id Q) E L h
 | .scope c,Q,E,L,h=>xC P c (noG Q) E L h
 | .loop c,Q,E,L,h=>∃I:Nat->Env->Own->PH->Prop,(∃n,I n E L h) /\
   ∀n E L h,I n E L h->∃E' L' h',Ent E E'/\Za L h L' h'/\xC P c (thn (fun E' L' h'=>∃m,m<n/\I m E' L' h') Q) E' L' h'
 | .exit id,Q,E,L,h=>Q (.exit id) E L h
 | .ret,Q,E,L,h=>Q .ret E L h
 | .region _ ops false,Q,E,L,h=>Zmj P ops.toList (Q .normal) ops.toList E L h
 | .region _ ops true,Q,E,L,h=>(Region.lexB .any ops=true/\(ops.toList.all fun o=>Jv o.op)=true/\Gq P ops.toList (fun E=>Q .normal E L h) L h ops.toList E) \/
  (Region.noSelect ops=true/\∃T:Pl,T.ok ops true ops.size (Array.replicate ops.size false)=true/\∃I:Env->Own->PH->Prop,(∀E L h,I E L h->∃E' L' h',(E'=E\/Ent E E')/\Za L h L' h'/\Q .normal E' L' h')/\∃s E0 L0 h0,(E0=E\/Ent E E0)/\Za L h L0 h0/\Kp s L0 h0/\xPl P ops.toList I s T E0 L0 h0)
 | .rangeFunc g ps assign body,Q,E,L,h=>Wl E g fun gv=>Zxm P gv ps assign body Q E L h
 | _,_,_,_,_=>False
def Zrp (P:Program)(L:Own)(h:PH)(E:Env):List ResultVar->(List Value->Prop)->Prop
 | [],K=>K []
 | .tmp t::rs,K=>J6 E t fun v=>Zrp P L h E rs fun vs=>K (v::vs)
 | .cell a t::rs,K=>J6 E a fun v=>Zqb v fun p=>xTI P t fun ti=>xLd ti L h p fun v=>Zrp P L h E rs fun vs=>K (v::vs)
def Yhu:List Value->Value
 | [v]=>v
 | vs => .tuple vs.toArray
def fin (K:PK)(v:Value)(L:Own)(h:PH):Prop:=∃L' h',Za L h L' h'/\K v L' h'
def Ycu (P:Program)(rs:List ResultVar)(K:PK):G5:=fun e E L h =>
 match e with
 | .ret | .normal=>Zrp P L h E rs fun vs=>fin K (Yhu vs) L h
 | _=>False
def YT:List Value->Nat->Env
 | [],_=>[]
 | v::vs,n=>(n,v)::YT vs (n+1)
section
variable {P:Program} {ops:Array Oper} {Q:Exit->Act->World->Prop} {S:World->Prop} {keep:Nat->Bool}
def Ux (P:Program)(ops:Array Oper)(Q:Exit->Act->World->Prop)(S:World->Prop)(keep:Nat->Bool):Nat->Array Bool->Act->World->Prop
 | 0,listed,a,w=>Region.ready .any ops listed=[]/\Q .normal a w
 | fuel+1,listed,a,w =>
  (Region.ready .any ops listed=[]->Q .normal a w) /\
  ∀i∈Region.ready .any ops listed,wpOp P ops Q i (fun a' w'=>if keep i=true then S w'/\Ux P ops Q S keep fuel (listed.setIfInBounds i true) a' w' else wpAny P .any ops Q fuel (listed.setIfInBounds i true) a' w') a w
theorem Zfn:∀ (fuel:Nat)(listed:Array Bool)(a:Act)(w:World),Ux P ops Q S keep fuel listed a w->wpAny P .any ops Q fuel listed a w
 | 0,_,_,_,h=>h
 | fuel+1,_,_,_,h=>⟨h.1,fun i hi=>wpOp_mono (fun a' w' h'=>by
   by_cases hk:keep i=true
   ·rw[if_pos hk]at h';exact Zfn fuel _ a' w' h'.2
   ·rw[if_neg hk]at h';exact h') (h.2 i hi)⟩
theorem Zjj {i:Nat}{oi:Oper}{v:Value}(hi:ops[i]?=some oi)(hki:keep i=true)(hsel:∀(j:Nat) (o:Oper) cs b,ops[j]?=some o->o.op ≠ .select cs b)
  (hQ:∀c a w,Q (.panic c) (a.put oi.dst v) w->Q (.panic c) a w) :
  ∀(fuel:Nat) (listed:Array Bool) (a:Act) (w:World),
   (∀j oj,ops[j]?=some oj->j≠i->listed.getD j true=false->(∀e∈oj.after,Region.binds .any e=true->e.on≠i)->oi.apart ops oj=true/\keep j=true) ->
   i∈Region.ready .any ops listed->YieldsIf P ops S oi v a->S w ->
   Ux P ops Q S keep fuel (listed.setIfInBounds i true) (a.put oi.dst v) w->Ux P ops Q S keep (fuel+1) listed a w:=by
 intro fuel
 induction fuel with
 | zero =>
  intro listed a w _ hr hy hS H;refine⟨fun h=>wK,fun j hj=>?_⟩;by_cases hji:j=i
  ·subst hji;exact hy.wpOp hi hS zQ
  ·have:=ready_mono hj hji;rw[H.1]at this
   cases this
 | succ fuel ih =>
  intro listed a w hfree hr hy hS H;refine⟨fun h=>wK,fun j hj=>?_⟩;by_cases hji:j=i
  ·subst hji;exact hy.wpOp hi hS zQ
  ·have h1:=H.2 j (ready_mono hj hji);obtain⟨hjun,oj,hoj,hall⟩:=mem_ready.1 hj;have hnot:∀e∈oj.after,Region.binds .any e=true->e.on≠i:=fun e he hb heq=>by
    have h1:=hall e he hb;have h0:=(mem_ready.1 hr).1;rw[heq]at h1;rcases Nat.lt_or_ge i listed.size with h' | h'
    ·simp [h']at h0 h1;rw[h0]at h1;cases h1
    ·simp [Array.getElem?_eq_none h']at h1
   obtain⟨hap,hkj⟩:=hfree j oj hoj hji hjun hnot;simp only[hkj,if_true]at h1 ⊢;have h2:=wpOp_putIf hoj hap (fun cs b=>hsel i oi cs b hi) (fun cs b=>hsel j oj cs b hoj) hQ hy h1;have hfree':∀k ok,ops[k]?=some ok->k≠i->(listed.setIfInBounds j true).getD k true=false ->
     (∀e∈ok.after,Region.binds .any e=true->e.on≠i)->oi.apart ops ok=true/\keep k=true:=fun k ok hk hki hun hno=>by
    refine hfree k ok hk hki ?_ hno;by_cases hjk:j=k
    ·subst hjk;exact hjun
    ·rw[getD_set_ne true hjk]at hun;exact hun
   refine wpOp_mono (fun a' w' h3=>⟨h3.2.1,ih (listed.setIfInBounds j true) a' w' hfree' (ready_mono hr (Ne.symm hji)) h3.1 h3.2.1 ?_⟩) h2;rw[Array.setIfInBounds_comm _ _ hji];exact h3.2.2
theorem Zoh {i:Nat}{oi:Oper}{v:Value}(hi:ops[i]?=some oi)(hki:keep i=true)(hsel:∀(j:Nat) (o:Oper) cs b,ops[j]?=some o->o.op ≠ .select cs b)
  (hQ:∀c a w,Q (.panic c) (a.put oi.dst v) w->Q (.panic c) a w) :
  ∀(fuel:Nat) (listed:Array Bool) (a:Act) (w:World),
   (∀j oj,ops[j]?=some oj->j≠i->listed.getD j true=false->(∀e∈oj.after,Region.binds .any e=true->e.on≠i)->oi.apart ops oj=true) ->
   i∈Region.ready .any ops listed->Yields P ops oi v a->S w ->
   Ux P ops Q S keep fuel (listed.setIfInBounds i true) (a.put oi.dst v) w->Ux P ops Q S keep (fuel+1) listed a w:=by
 intro fuel
 induction fuel with
 | zero =>
  intro listed a w _ hr hy hS H;refine⟨fun h=>wK,fun j hj=>?_⟩;by_cases hji:j=i
  ·subst hji;exact hy.yieldsIf.wpOp (S:=fun _=>True) hi trivial zQ
  ·have:=ready_mono hj hji;rw[H.1]at this
   cases this
 | succ fuel ih =>
  intro listed a w hfree hr hy hS H;refine⟨fun h=>wK,fun j hj=>?_⟩;by_cases hji:j=i
  ·subst hji;exact hy.yieldsIf.wpOp (S:=fun _=>True) hi trivial zQ
  ·have h1:=H.2 j (ready_mono hj hji);obtain⟨hjun,oj,hoj,hall⟩:=mem_ready.1 hj;have hnot:∀e∈oj.after,Region.binds .any e=true->e.on≠i:=fun e he hb heq=>by
    have h1:=hall e he hb;have h0:=(mem_ready.1 hr).1;rw[heq]at h1;rcases Nat.lt_or_ge i listed.size with h' | h'
    ·simp [h']at h0 h1;rw[h0]at h1;cases h1
    ·simp [Array.getElem?_eq_none h']at h1
   have hap:=hfree j oj hoj hji hjun hnot;have h2:=wpOp_putIf (S:=fun _=>True) hoj hap (fun cs b=>hsel i oi cs b hi) (fun cs b=>hsel j oj cs b hoj) hQ hy.yieldsIf h1;have hfree':∀k ok,ops[k]?=some ok->k≠i->(listed.setIfInBounds j true).getD k true=false ->
     (∀e∈ok.after,Region.binds .any e=true->e.on≠i)->oi.apart ops ok=true:=fun k ok hk hki hun hno=>by
    refine hfree k ok hk hki ?_ hno;by_cases hjk:j=k
    ·subst hjk;exact hjun
    ·rw[getD_set_ne true hjk]at hun;exact hun
   refine wpOp_mono (fun a' w' h3=>?_) h2;have hy':Yields P ops oi v a':=h3.1.imp (fun⟨hw,hv⟩=>⟨hw,fun w=>hv w trivial⟩) id;by_cases hkj:keep j=true
   ·rw[if_pos hkj]at h3 ⊢;refine⟨h3.2.1,ih (listed.setIfInBounds j true) a' w' hfree' (ready_mono hr (Ne.symm hji)) hy' h3.2.1 ?_⟩;rw[Array.setIfInBounds_comm _ _ hji];exact h3.2.2
   ·rw[if_neg hkj]at h3 ⊢;refine wpAny_first hi hsel hQ fuel (listed.setIfInBounds j true) a' w' hfree' (ready_mono hr (Ne.symm hji)) hy' ?_;rw[Array.setIfInBounds_comm _ _ hji];exact h3.2
theorem Zti {rs:List Nat}{fuel:Nat}{listed:Array Bool}{a:Act}{w:World}(hr:Region.ready .any ops listed=rs)(hne:rs≠[])
  (h:∀i∈rs,wpOp P ops Q i (fun a' w'=>if keep i=true then S w'/\Ux P ops Q S keep fuel (listed.setIfInBounds i true) a' w' else wpAny P .any ops Q fuel (listed.setIfInBounds i true) a' w') a w):Ux P ops Q S keep (fuel+1) listed a w :=
 ⟨fun h0=>absurd (hr ▸ h0) hne,hr ▸ h⟩
theorem Zov {listed:Array Bool}{a:Act}{w:World}(hr:Region.ready .any ops listed=[])(h:Q .normal a w) :
  ∀fuel,Ux P ops Q S keep fuel listed a w
 | 0=>⟨hr,h⟩
 | _+1=>⟨fun _=>h,by rw[hr];simp⟩
theorem Zix {listed:Array Bool}{i:Nat}(h:Zlr ops listed i=true)(j:Nat)(oj:Oper)(hj:ops[j]?=some oj)(hne:j≠i)(hun:listed.getD j true=false)(hno:∀e∈oj.after,Region.binds .any e=true->e.on≠i):VS ops j=true:=by
 unfold Zlr at h;rw[List.all_eq_true]at h;have h1:=h j (List.mem_range.2 (Array.getElem?_eq_some_iff.1 hj).1);simp only[hj,Bool.or_eq_true,beq_iff_eq,hne,false_or,hun,Bool.false_eq_true]at h1;simp only[VS,hj];rcases h1 with h1|h1
 ·exact h1
 ·obtain⟨e,he,hb⟩:=Array.any_eq_true'.1 h1;simp only[Bool.and_eq_true,beq_iff_eq]at hb;exact absurd hb.2 (hno e he hb.1)
end
open Go.RowKit
variable {P:Program}
section
variable {Q:G5} {E:Env} {L:Own} {h:PH}
@[go_sem ↓] theorem xC_skip:xC P .skip Q E L h=Q .normal E L h:=rfl
@[go_sem ↓] theorem Ywc (l:Nat):xC P (.label l) Q E L h=Q .normal E L h:=rfl
@[go_sem ↓] theorem xC_seq (a b:Code):xC P (.seq a b) Q E L h=xC P a (thn (xC P b Q) Q) E L h:=rfl
@[go_sem ↓] theorem xC_cond (c:Operand)(A B:Code):xC P (.cond c A B) Q E L h=Wl E c fun v=>Zrv v fun t=>xIf t (xC P A Q E L h) (xC P B Q E L h) ⟨⟩ ⟨⟩:=rfl
@[go_sem ↓] theorem Yxd (id:Nat)(c:Code):xC P (.block id c) Q E L h=xC P c (inB id Q) E L h:=rfl
@[go_sem ↓] theorem Yxb (c:Code):xC P (.scope c) Q E L h=xC P c (noG Q) E L h:=rfl
@[go_sem ↓] theorem noG_ret:noG Q .ret E L h=Q .ret E L h:=rfl
@[go_sem ↓] theorem xC_exit (id:Nat):xC P (.exit id) Q E L h=Q (.exit id) E L h:=rfl
@[go_sem ↓] theorem xC_ret:xC P .ret Q E L h=Q .ret E L h:=rfl
@[go_sem ↓] theorem Yif (g:Operand)(ps:Array Tmp)(assign body:Code):xC P (.rangeFunc g ps assign body) Q E L h=Wl E g fun gv=>Zxm P gv ps assign body Q E L h:=rfl
@[go_sem ↓] theorem Ypz (id:Nat)(l:List Oper):xC P (.region id l.toArray false) Q E L h=Zmj P l (Q .normal) l E L h:=rfl
@[go_sem ↓] theorem Ynl (k:Env->Own->PH->Prop):thn k Q .normal E L h=k E L h:=rfl
@[go_sem ↓] theorem Yvi (k:Env->Own->PH->Prop)(i:Nat):thn k Q (.exit i) E L h=Q (.exit i) E L h:=rfl
@[go_sem ↓] theorem thn_ret (k:Env->Own->PH->Prop):thn k Q .ret E L h=Q .ret E L h:=rfl
@[go_sem ↓] theorem Yof (i:Nat):inB i Q .normal E L h=Q .normal E L h:=rfl
@[go_sem ↓] theorem inB_ret (i:Nat):inB i Q .ret E L h=Q .ret E L h:=rfl
@[go_sem ↓] theorem Ywz (i j:Nat):inB i Q (.exit j) E L h=if j=i then Q .normal E L h else Q (.exit j) E L h:=rfl
@[go_sem ↓] theorem Yxy (rs:List ResultVar)(K:PK):Ycu P rs K .ret E L h=Zrp P L h E rs fun vs=>fin K (Yhu vs) L h:=rfl
@[go_sem ↓] theorem Ykp (rs:List ResultVar)(K:PK):Ycu P rs K .normal E L h=Zrp P L h E rs fun vs=>fin K (Yhu vs) L h:=rfl
end
section
variable {Q:G5} {E:Env} {L:Own} {h:PH}
theorem WX {id:Nat}{l:List Oper}(hB:Region.lexB .any l.toArray=true)(hq:(l.all fun o=>Jv o.op)=true)
  (hx:Gq P l (fun E=>Q .normal E L h) L h l E):xC P (.region id l.toArray true) Q E L h:=Or.inl ⟨hB,by simpa using hq,hx⟩
theorem xany {id:Nat}{l:List Oper}(T:Pl)(hs:Region.noSelect l.toArray=true)(hT:T.ok l.toArray true l.length (Array.replicate l.length false)=true)(hx:xPl P l (Q .normal) none T E L h):xC P (.region id l.toArray true) Q E L h :=
 Or.inr ⟨hs,T,wO,Q .normal,fun E L h hq=>⟨E,L,h,Or.inl rfl,fun W hg=>⟨hg,fun e he=>List.mem_map_of_mem he⟩,hq⟩,none,E,L,h,Or.inl rfl,fun W hg=>⟨hg,fun e he=>List.mem_map_of_mem he⟩,trivial,hx⟩
theorem Z4 {id:Nat}{l:List Oper}(T:Pl)(hs:Region.noSelect l.toArray=true)(hT:T.ok l.toArray true l.length (Array.replicate l.length false)=true)(L0:Own)(hd:Za L h L0 h)(hx:xPl P l (Q .normal) (some (L0,h)) T E L h):xC P (.region id l.toArray true) Q E L h :=
 Or.inr ⟨hs,T,wO,Q .normal,fun E L h hq=>⟨E,L,h,Or.inl rfl,fun W hg=>⟨hg,fun e he=>List.mem_map_of_mem he⟩,hq⟩,some (L0,h),E,L,h,Or.inl rfl,fun W hg=>⟨hg,fun e he=>List.mem_map_of_mem he⟩,fun W hg=>(hd W hg).1,hx⟩
theorem YN {γ:Type}{id:Nat}{l:List Oper}(T:Pl)(hs:Region.noSelect l.toArray=true)(hT:T.ok l.toArray true l.length (Array.replicate l.length false)=true)(E0:Env)(L0:Own)(inv:γ->Prop)(env:γ->Env)(own:γ->Own)(ph:γ->PH)
  (hE:Ent E E0) (hd:Za L h L0 h) (hx:xPl P l (fun E L h=>∃s,inv s/\Ent E (env s)/\Za L h (own s) (ph s)) (some (L0,h)) T E0 L h) (ht:∀s,inv s->Q .normal (env s) (own s) (ph s)):xC P (.region id l.toArray true) Q E L h :=
 Or.inr ⟨hs,T,wO,_,fun E L h ⟨s,h1,h2,h3⟩=>⟨env s,own s,ph s,Or.inr h2,h3,ht s h1⟩,some (L0,h),E0,L,h,Or.inr hE,fun W hg=>⟨hg,fun e he=>List.mem_map_of_mem he⟩,fun W hg=>(hd W hg).1,hx⟩
section
variable {ops rest:List Oper} {R K:Env->Own->PH->Prop} {s:Option (Own×PH)} {A:Prop}
@[go_sem ↓] theorem kS_true:kS true s=s:=rfl
@[go_sem ↓] theorem Yyf:kS false s=none:=rfl
@[go_sem ↓] theorem Yxp (t:Zm A):xKp none L h A t=A:=by simp [xKp,Kp]
@[go_sem ↓] theorem Yxx (t:Zm A):xKp (some (L,h)) L h A t=A:=by simp [xKp,Kp]
theorem xkp {L0:Own}{h0:PH}(hd:Za L h L0 h0)(hA:A):xKp (some (L0,h0)) L h A:=⟨fun W hg=>(hd W hg).1,hA⟩
@[go_sem ↓] theorem xPl_fin:xPl P ops R s .fin E L h=R E L h:=rfl
@[go_sem ↓] theorem xPl_nil:xPl P ops R s .nil E L h=True:=rfl
@[go_sem ↓] theorem xPl_tk (i:Nat)(t:Pl):xPl P ops R s (.tk i t) E L h=xAt P ops L h E (xPl P ops R s t) ops i:=rfl
@[go_sem ↓] theorem xPl_tkl (L0:Own)(h0:PH)(i:Nat)(t:Pl):xPl P ops R (some (L0,h0)) (.tkl i t) E L h=xAt P ops L0 h0 E (fun E' _ _=>xPl P ops R (some (L0,h0)) t E' L h) ops i:=by
 simp only[xPl,Option.some.injEq,Prod.mk.injEq,exists_and_left,eq_iff_iff]
 constructor
 ·rintro⟨L1,h1,⟨rfl,rfl⟩,hx⟩;exact hx
 ·intro hx;exact⟨L0,h0,⟨rfl,rfl⟩,hx⟩
@[go_sem ↓] theorem xPl_one (k:Bool)(i:Nat)(t:Pl):xPl P ops R s (.or k i t .nil) E L h=xAt P ops L h E (fun E' L' h'=>xKp (kS k s) L' h' (xPl P ops R (kS k s) t E' L' h') ⟨⟩) ops i:=by simp [xPl]
theorem Yf {k:Bool}{i:Nat}{t r:Pl}(h1:xAt P ops L h E (fun E' L' h'=>xKp (kS k s) L' h' (xPl P ops R (kS k s) t E' L' h') ⟨⟩) ops i)(h2:xPl P ops R s r E L h):xPl P ops R s (.or k i t r) E L h:=⟨h1,h2⟩
@[go_sem ↓] theorem Yxa (o:Oper)(n:Nat):xAt P ops L h E K (o::rest) (n+1)=xAt P ops L h E K rest n:=rfl
@[go_sem ↓] theorem Yvy (d:Nat)(o:Op)(ty:Nat)(pos:String)(af:Array Edge):xAt P ops L h E K (⟨some d,o,ty,pos,af,none⟩::rest) 0=xOp P o ty E L h fun v L h=>K ((d,v)::E) L h:=rfl
@[go_sem ↓] theorem Yxf (o:Op)(ty:Nat)(pos:String)(af:Array Edge):xAt P ops L h E K (⟨none,o,ty,pos,af,none⟩::rest) 0=xOp P o ty E L h fun _ L h=>K E L h:=rfl
@[go_sem ↓] theorem Ysa (d:Nat)(o:Op)(ty:Nat)(pos:String)(af:Array Edge)(j:Nat)(want:Bool):xAt P ops L h E K (⟨some d,o,ty,pos,af,some (j,want)⟩::rest) 0 =
  xG E (J5 ops j) want (fun t=>xIf t (xOp P o ty E L h fun v L h=>K ((d,v)::E) L h) (K ((d,undef)::E) L h) ⟨⟩ ⟨⟩) ⟨⟩:=rfl
end
variable {R:Env->Prop} {ops rest:List Oper} {ty:Nat} {K:Value->Prop}
@[go_sem ↓] theorem Yrs:Gq P ops R L h [] E=R E:=rfl
@[go_sem ↓] theorem Ynt (d:Nat)(o:Op)(ty:Nat)(pos:String)(af:Array Edge) :
  Gq P ops R L h (⟨some d,o,ty,pos,af,none⟩::rest) E=Zfh P o ty E L h fun v=>Gq P ops R L h rest ((d,v)::E):=rfl
@[go_sem ↓] theorem Yjk (d:Nat)(o:Op)(ty:Nat)(pos:String)(af:Array Edge)(j:Nat)(want:Bool) :
  Gq P ops R L h (⟨some d,o,ty,pos,af,some (j,want)⟩::rest) E =
   xG E (J5 ops j) want (fun t=>xIf t (Zfh P o ty E L h fun v=>Gq P ops R L h rest ((d,v)::E)) (Gq P ops R L h rest ((d,undef)::E)) ⟨⟩ ⟨⟩) ⟨⟩:=rfl
@[go_sem ↓] theorem Yuv (f:Operand)(az:List Operand)(ats:Array Nat):Zfh P (.call ⟨.value f,az.toArray,ats⟩) ty E L h K=Wl E f fun fv=>Uw E az fun vs=>Zny P fv vs L h K:=rfl
@[go_sem ↓] theorem Yik (b:Builtin)(az:List Operand)(ats:Array Nat):Zfh P (.call ⟨.builtin b,az.toArray,ats⟩) ty E L h K=Uw E az fun vs=>Zcf P b ats ty vs L h K:=rfl
@[go_sem ↓] theorem Ydy (ats:Array Nat)(v:Value):Zcf P .len ats ty [v] L h K=Ygr P ty ats v L h fun r=>Jq r K:=by
 apply propext;constructor
 ·rintro⟨u,hu,hk⟩;injection hu with hu;subst hu;exact hk
 ·intro hk;exact⟨v,rfl,hk⟩
@[go_sem ↓] theorem Yle (ats:Array Nat)(a:Option Addr)(n c:Nat):Ygr P ty ats (.slice a n c) L h K=Zbk P ty ats (.slice a n c) K:=rfl
@[go_sem ↓] theorem Yln (t:Nat)(x i:Operand)(ok:Bool):Zfh P (.lookup t x i ok) ty E L h K=xOp P (.lookup t x i ok) ty E L h fun v _ _=>K v:=rfl
@[go_sem ↓] theorem Ytd (x:Operand):Zfh P (.move x) ty E L h K=xOp P (.move x) ty E L h fun v _ _=>K v:=rfl
@[go_sem ↓] theorem Yml (x:Operand):Zfh P (.assign x) ty E L h K=xOp P (.assign x) ty E L h fun v _ _=>K v:=rfl
@[go_sem ↓] theorem Yqy (c x y:Operand):Zfh P (.pick c x y) ty E L h K=xOp P (.pick c x y) ty E L h fun v _ _=>K v:=rfl
@[go_sem ↓] theorem Yov (op:BinOp)(T U:Nat)(x y:Operand):Zfh P (.binOp op T x y U) ty E L h K=xOp P (.binOp op T x y U) ty E L h fun v _ _=>K v:=rfl
@[go_sem ↓] theorem Yrk (op:UnOp)(T:Nat)(x:Operand):Zfh P (.unOp op T x) ty E L h K=xOp P (.unOp op T x) ty E L h fun v _ _=>K v:=rfl
@[go_sem ↓] theorem Yhs (s d:Nat)(x:Operand):Zfh P (.convert s d x) ty E L h K=xOp P (.convert s d x) ty E L h fun v _ _=>K v:=rfl
@[go_sem ↓] theorem Yck (s f:Nat)(x:Operand):Zfh P (.fieldAddr s x f) ty E L h K=xOp P (.fieldAddr s x f) ty E L h fun v _ _=>K v:=rfl
@[go_sem ↓] theorem Ycl (t:Nat)(x i:Operand):Zfh P (.indexAddr t x i) ty E L h K=xOp P (.indexAddr t x i) ty E L h fun v _ _=>K v:=rfl
@[go_sem ↓] theorem Ypi (t:Nat)(x:Operand)(lo hi mx:Option Operand):Zfh P (.slice t x lo hi mx) ty E L h K=xOp P (.slice t x lo hi mx) ty E L h fun v _ _=>K v:=rfl
@[go_sem ↓] theorem Yfk (x:Operand):Zfh P (.nilCheck x) ty E L h K=xOp P (.nilCheck x) ty E L h fun v _ _=>K v:=rfl
@[go_sem ↓] theorem Yqn (t:Nat)(x:Operand):Zfh P (.load t x) ty E L h K=xOp P (.load t x) ty E L h fun v _ _=>K v:=rfl
@[go_sem ↓] theorem Yix (f:Nat)(first cap:List Value)(vs:List Value):Zny P (.func (.func f) first.toArray cap.toArray) vs L h K=Ybd P f (first++vs++cap) L h K:=by
 apply propext;constructor
 ·rintro⟨g,a,c,he,hk⟩;injection he with h1 h2 h3;injection h1 with h1;subst h1;subst h2;subst h3;exact hk
 ·intro hk;exact⟨_,_,_,rfl,hk⟩
theorem VK {f:Nat}{az:List Value}(v:Value)(hs:Zb P f az L h fun v' L' h'=>v'=v/\L'=L/\h'=h)(hk:K v):Ybd P f az L h K:=⟨v,hs,hk⟩
theorem Za.refl (L:Own)(h:PH):Za L h L h:=fun W hg=>⟨hg,fun e he=>List.mem_map_of_mem he⟩
theorem Za.trans {L1 L2 L3:Own}{h1 h2 h3:PH}(a:Za L1 h1 L2 h2)(b:Za L2 h2 L3 h3):Za L1 h1 L3 h3:=fun W hg=>by
 obtain⟨g2,f2⟩:=a W hg;obtain⟨g3,f3⟩:=b W g2;refine⟨g3,fun e he=>?_⟩;obtain⟨e',he',hb⟩:=List.mem_map.1 (f3 e he);rw[<- hb];exact f2 e' he'
theorem Za.tail (e:Zn)(L:Own)(h:PH):Za (e::L) h L h:=fun W hg =>
 ⟨⟨hg.sub,fun e' he'=>hg.own e' (by simp [he']),(List.nodup_cons.1 hg.nodup).2,fun e' he'=>hg.apart e' (by simp [he'])⟩,fun e' he'=>by simp;exact Or.inr ⟨e',he',rfl⟩⟩
theorem Yi {γ:Type}{c:Code}(s0:γ)(inv:γ->Prop)(env:γ->Env)(own:γ->Own)(ph:γ->PH)(μ:γ->Nat)
  (h0:inv s0) (hE:Ent E (env s0)) (hD:Za L h (own s0) (ph s0))
  (round:∀s,inv s->xC P c (thn (fun E' L' h'=>∃s',inv s'/\μ s'<μ s/\Ent E' (env s')/\Za L' h' (own s') (ph s')) Q) (env s) (own s) (ph s)):xC P (.loop c) Q E L h:=by
 refine⟨fun n E L h=>∃s,inv s/\μ s=n/\Ent E (env s)/\Za L h (own s) (ph s),⟨_,s0,h0,rfl,hE,hD⟩,?_⟩;rintro n E L h ⟨s,hs,rfl,hE,hD⟩;refine⟨_,_,_,hE,hD,?_⟩;have e:(fun E' L' h'=>∃s',inv s'/\μ s'<μ s/\Ent E' (env s')/\Za L' h' (own s') (ph s'))=fun E' L' h'=>∃m,m<μ s/\∃s',inv s'/\μ s'=m/\Ent E' (env s')/\Za L' h' (own s') (ph s'):=by
  funext E' L' h'
  apply propext;constructor
  ·rintro⟨s',a,b,c,d⟩;exact⟨_,b,s',a,rfl,c,d⟩
  ·rintro⟨m,a,s',b,rfl,c,d⟩;exact⟨s',b,a,c,d⟩
 rw[<- e];exact round s hs
theorem Y1 {γ:Type}{c:Code}(s0:γ)(inv:γ->Prop)(env:γ->Env)(μ:γ->Nat)(h0:inv s0)(hE:Ent E (env s0))
  (round:∀s,inv s->xC P c (thn (fun E' L' h'=>∃s',inv s'/\μ s'<μ s/\Ent E' (env s')/\Za L' h' L h) Q) (env s) L h):xC P (.loop c) Q E L h :=
 Yi s0 inv env (fun _=>L) (fun _=>h) μ h0 hE (Za.refl L h) round
end
section
variable {A B:Prop} {ta:Zm A} {tb:Zm B}
@[go_sem ↓] theorem Yvh:xIf true A B ta tb=A:=by simp [xIf]
@[go_sem ↓] theorem Ysg:xIf false A B ta tb=B:=by simp [xIf]
@[go_sem] theorem Ypv:xIf true A B ta tb=A:=by simp [xIf]
@[go_sem] theorem Ypm:xIf false A B ta tb=B:=by simp [xIf]
@[go_sem] theorem xIf_not (b:Bool):xIf (!b) A B ta tb=xIf b B A tb ta:=by cases b<;>simp [xIf]
theorem xif {b:Bool}(h1:b=true->A)(h2:b=false->B):xIf b A B ta tb:=⟨h1,h2⟩
theorem Y6 {p:Prop}[Decidable p](h1:p->A)(h2:¬p->B):xIf (decide p) A B ta tb :=
 ⟨fun h=>h1 (of_decide_eq_true h),fun h=>h2 (of_decide_eq_false h)⟩
end
@[go_sem high] theorem dec_t {p:Prop}[Decidable p](h:p):decide p=true:=decide_eq_true h
@[go_sem high] theorem dec_f {p:Prop}[Decidable p](h:¬p):decide p=false:=decide_eq_false h
@[go_sem] theorem xPut_eq {α:Type}(v:α)(K:α->Prop)(t:Zm K):Jq v K t=K v:=rfl
section
variable {K:Value->Prop} {E:Env}
@[go_sem ↓] theorem Zuz (d i:Nat)(v:Value):J6 ((d,v)::E) i K=if i=d then K v else J6 E i K:=by
 by_cases hd:i=d
 ·subst hd;simp [J6,List.lookup]
 ·have:(i == d)=false:=by simpa using hd
  simp [J6,List.lookup,this,hd]
@[go_sem ↓] theorem Ysj (n i:Nat)(v:Value)(vs:List Value):J6 (YT (v::vs) n) i K=if i=n then K v else J6 (YT vs (n+1)) i K:=Zuz n i v
@[go_sem ↓] theorem Yvl (i:Nat):Wl E (.tmp i) K=J6 E i K:=rfl
@[go_sem ↓] theorem Yoc (v:Value):Wl E (.const v) K=K v:=rfl
@[go_sem ↓] theorem Ytz (f:Nat):Wl E (.func f) K=K (.func (.func f) #[] #[]):=rfl
@[go_sem ↓] theorem Ypr (K:List Value->Prop):Uw E [] K=K []:=rfl
@[go_sem ↓] theorem Ypb (x:Operand)(xs:List Operand)(K:List Value->Prop):Uw E (x::xs) K=Wl E x fun v=>Uw E xs fun vs=>K (v::vs):=rfl
@[go_sem ↓] theorem Ynk (K:List (Nat×Value)->Prop):Gt E [] K=K []:=rfl
@[go_sem ↓] theorem Yjr (i:Nat)(x:Operand)(xs:List (Nat×Operand))(K:List (Nat×Value)->Prop):Gt E ((i,x)::xs) K=Wl E x fun v=>Gt E xs fun vs=>K ((i,v)::vs):=rfl
@[go_sem ↓] theorem Ypf (K:Option Value->Prop):Zhm E none K=K none:=rfl
@[go_sem ↓] theorem Ynj (x:Operand)(K:Option Value->Prop):Zhm E (some x) K=Wl E x fun v=>K (some v):=rfl
@[go_sem ↓] theorem Yog (b:Bool)(K:Bool->Prop):Zrv (.bool b) K=K b:=by simp [Zrv]
@[go_sem ↓] theorem Yqj (p:Addr)(K:Option Addr->Prop):Zqb (.pointer (some p)) K=K (some p):=by simp [Zqb]
theorem GA {a:Option Addr}{j:Nat}(ha:a≠none)(K:Option Addr->Prop):Zqb (.pointer (UI a j)) K=K (UI a j):=by
 cases a with
 | none=>exact absurd rfl ha
 | some q=>simp [Zqb,UI]
end
section
variable {Q:Env->Own->PH->Prop} {E:Env} {L:Own} {h:PH} {ops:List Oper} {rest:List Oper}
@[go_sem ↓] theorem Yxw:Zmj P ops Q [] E L h=Q E L h:=rfl
@[go_sem ↓] theorem Yrr (d:Nat)(o:Op)(ty:Nat)(pos:String)(af:Array Edge) :
  Zmj P ops Q (⟨some d,o,ty,pos,af,none⟩::rest) E L h=JL P o ty E L h fun v L h=>Zmj P ops Q rest ((d,v)::E) L h:=rfl
@[go_sem ↓] theorem Ypu (o:Op)(ty:Nat)(pos:String)(af:Array Edge) :
  Zmj P ops Q (⟨none,o,ty,pos,af,none⟩::rest) E L h=JL P o ty E L h fun _ L h=>Zmj P ops Q rest E L h:=rfl
@[go_sem ↓] theorem Yno (d:Nat)(o:Op)(ty:Nat)(pos:String)(af:Array Edge)(j:Nat)(want:Bool) :
  Zmj P ops Q (⟨some d,o,ty,pos,af,some (j,want)⟩::rest) E L h =
   xG E (J5 ops j) want (fun t=>xIf t (JL P o ty E L h fun v L h=>Zmj P ops Q rest ((d,v)::E) L h) (Zmj P ops Q rest ((d,undef)::E) L h) ⟨⟩ ⟨⟩) ⟨⟩:=rfl
@[go_sem] theorem xG_some (d:Nat)(want:Bool)(K:Bool->Prop)(t:Zm K):xG E (some d) want K t=J6 E d fun v=>xGd v want K:=by simp [xG]
@[go_sem ↓] theorem Yuz (want:Bool)(K:Bool->Prop)(t:Zm K):xGd undef want K t=K false:=by simp [xGd,undef]
@[go_sem ↓] theorem Yvp (b want:Bool)(K:Bool->Prop)(t:Zm K):xGd (.bool b) want K t=Jq (b == want) K:=by simp [xGd,Jq,undef]
@[go_sem] theorem You (o:Oper)(os:List Oper):J5 (o::os) 0=o.dst:=rfl
@[go_sem] theorem Ynv (o:Oper)(os:List Oper)(n:Nat):J5 (o::os) (n+1)=J5 os n:=rfl
variable {ty:Nat} {K:PK}
@[go_sem ↓] theorem Ywe (x:Operand):xOp P (.move x) ty E L h K=Wl E x fun v=>K v L h:=rfl
@[go_sem ↓] theorem Yom (x:Operand):xOp P (.assign x) ty E L h K=Wl E x fun v=>K v L h:=rfl
@[go_sem ↓] theorem Yvz (c a b:Operand):xOp P (.pick c a b) ty E L h K=Wl E c fun v=>Zrv v fun t=>xIf t (Wl E a fun v=>K v L h) (Wl E b fun v=>K v L h) ⟨⟩ ⟨⟩:=rfl
@[go_sem ↓] theorem Yud (op:BinOp)(T U:Nat)(x y:Operand):xOp P (.binOp op T x y U) ty E L h K=Wl E x fun a=>Wl E y fun b=>VO P op T x y a b fun v=>Jq v (fun v=>K v L h) ⟨⟩:=rfl
@[go_sem ↓] theorem Yxv (op:UnOp)(T:Nat)(x:Operand):xOp P (.unOp op T x) ty E L h K=Wl E x fun a=>xUn P op a fun v=>Jq v (fun v=>K v L h) ⟨⟩:=rfl
@[go_sem ↓] theorem Ymw (s d:Nat)(x:Operand)(hs:s≠d)(hd:d≠9):xOp P (.convert s d x) ty E L h K=Wl E x fun a=>Zej P s d a fun v=>Jq v (fun v=>K v L h) ⟨⟩:=by
 show Wl E x (fun a=>xCv P s d a L h K)=_;rw[show (fun a=>xCv P s d a L h K)=fun a=>Zej P s d a fun v=>Jq v (fun v=>K v L h) ⟨⟩ by funext a;unfold xCv;rw[if_neg hs,if_neg hd]]
@[go_sem ↓] theorem Ybx (s:Nat)(x:Operand)(hs:s≠9):xOp P (.convert s 9 x) ty E L h K=Wl E x fun a=>Yeb P (convert s 9 a) L h fun v=>K v L h:=by
 show Wl E x (fun a=>xCv P s 9 a L h K)=_;rw[show (fun a=>xCv P s 9 a L h K)=fun a=>Yeb P (convert s 9 a) L h fun v=>K v L h by funext a;unfold xCv;rw[if_neg hs,if_pos rfl]]
@[go_sem ↓] theorem Ykr (x:Operand)(i:Nat):xOp P (.extract x i) ty E L h K=Wl E x fun a=>Yvt P a i fun v=>K v L h:=rfl
@[go_sem ↓] theorem Ygj (s f:Nat)(x:Operand):xOp P (.fieldAddr s x f) ty E L h K=Wl E x fun a=>xFO P s f fun o=>Zkh a o fun v=>Jq v (fun v=>K v L h) ⟨⟩:=rfl
@[go_sem ↓] theorem Yfg (t:Nat)(x i:Operand):xOp P (.indexAddr t x i) ty E L h K=Wl E x fun a=>Wl E i fun b=>xIA (tSh P t) a b (fun v=>Jq v (fun v=>K v L h) ⟨⟩) ⟨⟩:=rfl
@[go_sem ↓] theorem Yvd (t:Nat)(x i:Operand):xOp P (.index t x i) ty E L h K=Wl E x fun a=>Wl E i fun b=>xIx P t a b fun v=>Jq v (fun v=>K v L h) ⟨⟩:=rfl
@[go_sem ↓] theorem Yru (t:Nat)(x:Operand)(lo hi mx:Option Operand):xOp P (.slice t x lo hi mx) ty E L h K=Wl E x fun a=>Zhm E lo fun l=>Zhm E hi fun u=>Zhm E mx fun m=>xSl P t a l u m fun v=>Jq v (fun v=>K v L h) ⟨⟩:=rfl
@[go_sem ↓] theorem Yij (x:Operand):xOp P (.nilCheck x) ty E L h K=Wl E x fun a=>xNC P a fun v=>K v L h:=rfl
@[go_sem ↓] theorem Yqg (t:Nat)(ps:List (Nat×Operand)):xOp P (.build t ps.toArray) ty E L h K=Gt E ps fun vs=>Y4 P t vs.toArray fun v=>Jq v (fun v=>K v L h) ⟨⟩:=rfl
@[go_sem ↓] theorem Yhc (fn:Fn)(first cap:List Operand):xOp P (.makeFunc fn first.toArray cap.toArray) ty E L h K=Uw E first fun f=>Uw E cap fun c=>K (.func fn f.toArray c.toArray) L h:=rfl
@[go_sem ↓] theorem Ykd (t:Nat):xOp P (.makeMap t none) ty E L h K=Zlw L h (fun b L'=>K (.map (some b)) L' h) ⟨⟩:=rfl
@[go_sem ↓] theorem Ypc (t:Nat)(x i:Operand)(ok:Bool):xOp P (.lookup t x i ok) ty E L h K=Wl E x fun m=>Wl E i fun k=>Yeb P (Instr.lookup t m k ok) L h fun v=>K v L h:=rfl
@[go_sem ↓] theorem Ydk (t:Nat)(x i y:Operand):xOp P (.mapUpdate t x i y) ty E L h K=Wl E x fun m=>Wl E i fun k=>Wl E y fun u=>xDo P (Instr.mapUpdate t m k u) L h fun L' h'=>K undef L' h':=rfl
@[go_sem ↓] theorem Yxk (t:Nat)(x:Operand):xOp P (.load t x) ty E L h K=Wl E x fun v=>Zqb v fun p=>xTI P t fun ti=>xLd ti L h p fun v=>K v L h:=rfl
@[go_sem ↓] theorem Yrx (t:Nat)(x y:Operand):xOp P (.store t x y) ty E L h K=Wl E x fun v=>Wl E y fun u=>Zqb v fun p=>xTI P t fun ti=>xSt ti L p u fun L'=>K undef L' h:=rfl
@[go_sem ↓] theorem Yqx (t:Nat):xOp P (.alloc t) ty E L h K=xTI P t fun ti=>Zzz L h t ti.zero (fun b L'=>K (.pointer (some ⟨b,0,none⟩)) L' h) ⟨⟩:=rfl
@[go_sem ↓] theorem xOp_box (t:Nat)(x:Operand):xOp P (.box t x) ty E L h K=Wl E x fun v=>Zzz L h t v.cells.toList (fun b L'=>K (.pointer (some ⟨b,0,none⟩)) L' h) ⟨⟩:=rfl
@[go_sem ↓] theorem Ycq (t n:Nat)(ps:List (Nat×Operand)):xOp P (.buildSlice t n ps.toArray) ty E L h K=Gt E ps fun vs=>xBS P t n vs.toArray fun T cs=>Zzz L h T cs (fun b L'=>K (.slice (some ⟨b,0,none⟩) n n) L' h) ⟨⟩:=rfl
@[go_sem ↓] theorem Yfb (t:Nat)(l c:Operand):xOp P (.makeSlice t l c) ty E L h K=Wl E l fun l=>Wl E c fun c=>xMS P t l c fun T cs n m=>Zzz L h T cs (fun b L'=>K (.slice (some ⟨b,0,none⟩) n m) L' h) ⟨⟩:=rfl
@[go_sem ↓] theorem Yxo (f:Operand)(az:List Operand)(ats:Array Nat):xOp P (.call ⟨.value f,az.toArray,ats⟩) ty E L h K=Wl E f fun fv=>Uw E az fun vs=>Zfc P fv vs L h K:=rfl
@[go_sem ↓] theorem Ylc (b:Builtin)(az:List Operand)(ats:Array Nat):xOp P (.call ⟨.builtin b,az.toArray,ats⟩) ty E L h K=Uw E az fun vs=>UO P b ats ty vs L h K:=rfl
@[go_sem ↓] theorem Yuc (x:Operand):JL P (.move x) ty E L h K=xOp P (.move x) ty E L h K:=rfl
@[go_sem ↓] theorem Yjf (x:Operand):JL P (.assign x) ty E L h K=xOp P (.assign x) ty E L h K:=rfl
@[go_sem ↓] theorem Ysr (c a b:Operand):JL P (.pick c a b) ty E L h K=xOp P (.pick c a b) ty E L h K:=rfl
@[go_sem ↓] theorem Yoq (op:BinOp)(T U:Nat)(x y:Operand):JL P (.binOp op T x y U) ty E L h K=xOp P (.binOp op T x y U) ty E L h K:=rfl
@[go_sem ↓] theorem Yql (op:UnOp)(T:Nat)(x:Operand):JL P (.unOp op T x) ty E L h K=xOp P (.unOp op T x) ty E L h K:=rfl
@[go_sem ↓] theorem Yhp (s d:Nat)(x:Operand):JL P (.convert s d x) ty E L h K=xOp P (.convert s d x) ty E L h K:=rfl
@[go_sem ↓] theorem Yhj (x:Operand)(i:Nat):JL P (.extract x i) ty E L h K=xOp P (.extract x i) ty E L h K:=rfl
@[go_sem ↓] theorem Ycv (s f:Nat)(x:Operand):JL P (.fieldAddr s x f) ty E L h K=xOp P (.fieldAddr s x f) ty E L h K:=rfl
@[go_sem ↓] theorem Ycm (t:Nat)(x i:Operand):JL P (.indexAddr t x i) ty E L h K=xOp P (.indexAddr t x i) ty E L h K:=rfl
@[go_sem ↓] theorem Ynw (t:Nat)(x i:Operand):JL P (.index t x i) ty E L h K=xOp P (.index t x i) ty E L h K:=rfl
@[go_sem ↓] theorem Yoz (t:Nat)(x:Operand)(lo hi mx:Option Operand):JL P (.slice t x lo hi mx) ty E L h K=xOp P (.slice t x lo hi mx) ty E L h K:=rfl
@[go_sem ↓] theorem Ycy (x:Operand):JL P (.nilCheck x) ty E L h K=xOp P (.nilCheck x) ty E L h K:=rfl
@[go_sem ↓] theorem Ype (t:Nat)(ps:Array (Nat×Operand)):JL P (.build t ps) ty E L h K=xOp P (.build t ps) ty E L h K:=rfl
@[go_sem ↓] theorem Yem (fn:Fn)(first cap:Array Operand):JL P (.makeFunc fn first cap) ty E L h K=xOp P (.makeFunc fn first cap) ty E L h K:=rfl
@[go_sem ↓] theorem Yit (t:Nat)(r:Option Operand):JL P (.makeMap t r) ty E L h K=xOp P (.makeMap t r) ty E L h K:=rfl
@[go_sem ↓] theorem Ymy (t:Nat)(x i:Operand)(ok:Bool):JL P (.lookup t x i ok) ty E L h K=xOp P (.lookup t x i ok) ty E L h K:=rfl
@[go_sem ↓] theorem Ycj (t:Nat)(x i y:Operand):JL P (.mapUpdate t x i y) ty E L h K=xOp P (.mapUpdate t x i y) ty E L h K:=rfl
@[go_sem ↓] theorem Ysy (t:Nat)(x:Operand):JL P (.load t x) ty E L h K=xOp P (.load t x) ty E L h K:=rfl
@[go_sem ↓] theorem Yoy (t:Nat)(x y:Operand):JL P (.store t x y) ty E L h K=xOp P (.store t x y) ty E L h K:=rfl
@[go_sem ↓] theorem Ynh (t:Nat):JL P (.alloc t) ty E L h K=xOp P (.alloc t) ty E L h K:=rfl
@[go_sem ↓] theorem Yyd (t:Nat)(x:Operand):JL P (.box t x) ty E L h K=xOp P (.box t x) ty E L h K:=rfl
@[go_sem ↓] theorem Zzd (t n:Nat)(ps:Array (Nat×Operand)):JL P (.buildSlice t n ps) ty E L h K=xOp P (.buildSlice t n ps) ty E L h K:=rfl
@[go_sem ↓] theorem Ycp (t:Nat)(l c:Operand):JL P (.makeSlice t l c) ty E L h K=xOp P (.makeSlice t l c) ty E L h K:=rfl
@[go_sem ↓] theorem Yhk (b:Builtin)(az:Array Operand)(ats:Array Nat):JL P (.call ⟨.builtin b,az,ats⟩) ty E L h K=xOp P (.call ⟨.builtin b,az,ats⟩) ty E L h K:=rfl
@[go_sem ↓] theorem Ytl (f:Operand)(az:List Operand)(ats:Array Nat):JL P (.call ⟨.value f,az.toArray,ats⟩) ty E L h K=Wl E f fun fv=>Uw E az fun vs=>Zri P fv vs L h K:=rfl
@[go_sem ↓] theorem Yng (f:Nat)(first cap:List Value)(vs:List Value):Zri P (.func (.func f) first.toArray cap.toArray) vs L h K=WW P f (first++vs++cap) L h K ⟨⟩:=by
 apply propext;constructor
 ·rintro(⟨g,a,c,he,hk⟩ | ⟨l,he,_⟩)
  ·injection he with h1 h2 h3;injection h1 with h1;subst h1;subst h2;subst h3;simpa using hk
  ·injection he with h1;cases h1
 ·intro hk;exact .inl ⟨_,_,_,rfl,qA⟩
@[go_sem ↓] theorem Yiv (l:Nat)(vs:List Value):Zri P (.func (.yield l) #[] #[]) vs L h K=Yhq P l vs L h K ⟨⟩:=by
 apply propext;constructor
 ·rintro(⟨g,a,c,he,hk⟩ | ⟨l',he,hk⟩)
  ·injection he with h1;cases h1
  ·injection he with h1;injection h1 with h1;subst h1;exact hk
 ·intro hk;exact .inr ⟨l,rfl,hk⟩
@[go_sem ↓] theorem Ylw (f:Nat)(first cap:List Value)(vs:List Value):Zfc P (.func (.func f) first.toArray cap.toArray) vs L h K=WW P f (first++vs++cap) L h K ⟨⟩:=by
 apply propext;constructor
 ·rintro⟨g,a,c,he,hk⟩;injection he with h1 h2 h3;injection h1 with h1;subst h1;subst h2;subst h3;exact hk
 ·intro hk;exact⟨_,_,_,rfl,hk⟩
theorem ZY {T:TypeId}{cs:List Value}{K:Nat->Own->Prop}(hk:∀b,ZS b L->h b=noC->K b (⟨b,T,cs,cs.length⟩::L))(hT:T≠4294967295:=by first|decide|omega):Zzz L h T cs K ⟨⟩:=⟨hT,hk⟩
theorem Zyr {K:Nat->Own->Prop}(hk:∀b,ZS b L->h b=noC->K b (⟨b,4294967295,[],0⟩::L)):Zlw L h K ⟨⟩:=hk
end
section
variable {K:Value->Prop} {T:Nat} {x y:Operand}
theorem Yw {m:Sem Value}{v:Value}(hm:∀W,m.run P W = .ok v W)(K:Value->Prop):Zjp P m K=K v:=by
 apply propext;constructor
 ·rintro⟨u,hu,hk⟩;have:=(hu default).symm.trans (hm default);injection this with h1 _
  subst h1;exact hk
 ·intro hk;exact⟨v,hm,hk⟩
@[go_sem ↓] theorem Yxu (k:IntKind)(a b:Int):VO P .add T x y (.int k a) (.int k b) K=K (.int k (k.wrap (a+b))):=Yw (fun W=>by simp [eqGuard,binOp,go_sem]) K
@[go_sem ↓] theorem Yxq (k:IntKind)(a b:Int):VO P .sub T x y (.int k a) (.int k b) K=K (.int k (k.wrap (a-b))):=Yw (fun W=>by simp [eqGuard,binOp,go_sem]) K
@[go_sem ↓] theorem Yvv (k:IntKind)(a b:Int):VO P .mul T x y (.int k a) (.int k b) K=K (.int k (k.wrap (a*b))):=Yw (fun W=>by simp [eqGuard,binOp,go_sem]) K
theorem Ykj (k:IntKind)(a b:Int)(hb:b≠0)(W:World):(binOp .quo T (.int k a) (.int k b)).run P W = .ok (.int k (k.wrap (a.tdiv b))) W:=by
 simp [binOp,Op.intDiv,hb,pure]
theorem Ylq (k:IntKind)(a b:Int)(hb:b≠0)(W:World):(binOp .rem T (.int k a) (.int k b)).run P W = .ok (.int k (a.tmod b)) W:=by
 simp [binOp,Op.intDiv,hb,pure]
theorem Wr {op:BinOp}(k l:IntKind)(a b:Int)(m:Sem Value):(do eqGuard op T x y (.int k a) (.int l b);m)=m:=by cases op<;>rfl
@[go_sem ↓] theorem Yyc (k:IntKind)(a b:Int)(hb:b≠0):VO P .quo T x y (.int k a) (.int k b) K=K (.int k (k.wrap (a.tdiv b))) :=
 Yw (fun W=>by rw[Wr];exact Ykj k a b hb W) K
@[go_sem ↓] theorem Yvr (k:IntKind)(a b:Int)(hb:b≠0):VO P .rem T x y (.int k a) (.int k b) K=K (.int k (a.tmod b)) :=
 Yw (fun W=>by rw[Wr];exact Ylq k a b hb W) K
@[go_sem ↓] theorem Yvq (k:IntKind)(a b:Int):VO P .and T x y (.int k a) (.int k b) K=K (.int k (bits .and k a b)) :=
 Yw (fun W=>by rw[Wr];simp [binOp,go_sem]) K
@[go_sem ↓] theorem xBin_or (k:IntKind)(a b:Int):VO P .or T x y (.int k a) (.int k b) K=K (.int k (bits .or k a b)) :=
 Yw (fun W=>by rw[Wr];simp [binOp,go_sem]) K
@[go_sem ↓] theorem Ywn (k l:IntKind)(a b:Int)(hb:0<=b):VO P .shl T x y (.int k a) (.int l b) K=K (.int k (k.wrap (a*2 ^ (min b.toNat k.bits)))) :=
 Yw (fun W=>by rw[Wr];simp [binOp,Op.shift,Int.not_lt.2 hb,pure]) K
@[go_sem ↓] theorem Yvj (k l:IntKind)(a b:Int)(hb:0<=b):VO P .shr T x y (.int k a) (.int l b) K=K (.int k (a/2 ^ (min b.toNat k.bits))) :=
 Yw (fun W=>by
  rw[Wr,<- Int.fdiv_eq_ediv_of_nonneg a (Int.le_of_lt (Int.pow_pos qh))];simp [binOp,Op.shift,Int.not_lt.2 hb,pure]) K
@[go_sem ↓] theorem Yxg (k:IntKind)(a b:Int):VO P .eql T x y (.int k a) (.int k b) K=K (.bool (decide (a=b))) :=
 Yw (fun W=>by rw[Wr];simp [binOp,Op.intCmp,pure,BEq.beq]) K
@[go_sem ↓] theorem Yxr (k:IntKind)(a b:Int):VO P .neq T x y (.int k a) (.int k b) K=K (.bool (!decide (a=b))) :=
 Yw (fun W=>by rw[Wr];simp [binOp,Op.intCmp,pure,bne,BEq.beq]) K
@[go_sem ↓] theorem Yyp (k:IntKind)(a b:Int):VO P .lss T x y (.int k a) (.int k b) K=K (.bool (decide (a<b))) :=
 Yw (fun W=>qX) K
@[go_sem ↓] theorem Ywo (k:IntKind)(a b:Int):VO P .leq T x y (.int k a) (.int k b) K=K (.bool (decide (a<=b))) :=
 Yw (fun W=>qX) K
@[go_sem ↓] theorem Yxm (k:IntKind)(a b:Int):VO P .gtr T x y (.int k a) (.int k b) K=K (.bool (decide (b<a))) :=
 Yw (fun W=>qX) K
@[go_sem ↓] theorem Ywm (k:IntKind)(a b:Int):VO P .geq T x y (.int k a) (.int k b) K=K (.bool (decide (b<=a))) :=
 Yw (fun W=>qX) K
@[go_sem ↓] theorem xUn_not (b:Bool):xUn P .not (.bool b) K=K (.bool (!b)):=Yw (fun W=>by simp [Op.unary,pure]) K
@[go_sem ↓] theorem Yon (vs:List Value)(i:Nat):Yvt P (.tuple vs.toArray) i K=VE vs i K:=by
 unfold Yvt
 cases hv:vs[i]? with
 | some v =>
  rw[Yw (v:=v) (fun W=>by simp [Instr.extract,hv,pure])];simp [VE,hv]
 | none =>
  apply propext;constructor
  ·rintro⟨u,hu,_⟩;have:=hu default;simp [Instr.extract,hv,stuck]at this
  ·rintro⟨u,hu,_⟩;rw[hv]at hu;cases hu
theorem Ycz (k:IntKind)(zs:List Int)(o:Nat)(ho:o<zs.length):VE (zs.map (Value.int k)) o K=K (.int k (zs.getD o 0)):=by
 simp [VE,ho]
@[go_sem ↓] theorem Yuk (v:Value)(vs:List Value):VE (v::vs) 0 K=K v:=by simp [VE]
@[go_sem ↓] theorem Yuy (v:Value)(vs:List Value)(n:Nat):VE (v::vs) (n+1) K=VE vs n K:=by simp [VE]
theorem Zmf {cs:List Value}{o:Nat}{v:Value}(hv:cs[o]?=some v):VE cs o K=K v:=by simp [VE,hv]
theorem ZU {s f o:Nat}(ho:Ywf P s f=some o)(K:Nat->Prop):xFO P s f K=K o:=by simp [xFO,ho]
theorem Yz {t:Nat}{ti:TI}(ht:tI P t=some ti)(K:TI->Prop):xTI P t K=K ti:=by simp [xTI,ht]
theorem Ud (b o j:Nat):(Addr.mk b o none).add j=⟨b,o+j,none⟩:=by
 unfold Addr.add;split
 ·rename_i h;subst h;rfl
 ·rfl
@[go_sem ↓] theorem Ynp (b j o:Nat):Zkh (.pointer (some ⟨b,j,none⟩)) o K=K (.pointer (some ⟨b,j+o,none⟩)):=by simp [Zkh,Ud]
theorem Zmq (a:Addr)(i j:Nat):(a.add i).add j=a.add (i+j):=by
 unfold Addr.add;by_cases hi:i=0<;>by_cases hj:j=0<;>simp [hi,hj,Nat.add_assoc]
theorem Zgd {a:Option Addr}(ha:a≠none)(j o:Nat)(K:Value->Prop):Zkh (.pointer (UI a j)) o K=K (.pointer (UI a (j+o))):=by
 cases a with
 | none=>exact absurd rfl ha
 | some q=>simp [Zkh,UI,Zmq]
@[go_sem] theorem xIA_own (e sz by' b o n c:Nat)(k:IntKind)(j:Int)(h0:0<=j)(h1:j<(n:Int))(t:Zm K) :
  xIA (.sl e sz by') (.slice (some ⟨b,o,none⟩) n c) (.int k j) K t=K (.pointer (some ⟨b,o+j.toNat*sz,none⟩)):=by
 apply propext;constructor
 ·rintro⟨q,n',c',k',j',e1,e2,_,_,hk⟩;injection e1 with e1 e3 e4;injection e1 with e1;injection e2 with e5 e6
  subst e1;subst e6;rw[Ud]at hk;exact hk
 ·intro hk;exact⟨_,_,_,_,_,rfl,rfl,h0,h1,by rw[Ud];exact hk⟩
theorem Zqc {a:Option Addr}(ha:a≠none)(e sz by' n c:Nat)(k:IntKind)(j:Int)(h0:0<=j)(h1:j<(n:Int))(K:Value->Prop)(t:Zm K) :
  xIA (.sl e sz by') (.slice a n c) (.int k j) K t=K (.pointer (UI a (j.toNat*sz))):=by
 cases a with
 | none=>exact absurd rfl ha
 | some q =>
  apply propext;constructor
  ·rintro⟨q,n',c',k',j',e1,e2,_,_,hk⟩;injection e1 with e1 e3 e4;injection e1 with e1;injection e2 with e5 e6
   subst e1;subst e6;exact hk
  ·intro hk;exact⟨_,_,_,_,_,rfl,rfl,h0,h1,hk⟩
end
section
variable {K:Value->Prop} {L:Own} {h:PH}
@[go_sem ↓] theorem Ykz (n:Nat)(z:List Value)(by':Nat)(p:Option Addr):xLd ⟨n,true,z,by'⟩ L h p K=GK L h p 0 n fun cs=>K (.agg cs.toArray):=rfl
@[go_sem ↓] theorem xLd_one (n:Nat)(z:List Value)(by':Nat)(p:Option Addr):xLd ⟨n,false,z,by'⟩ L h p K=Um L h p 0 K:=rfl
@[go_sem ↓] theorem Ymh (p:Option Addr)(j:Nat)(K:List Value->Prop):GK L h p j 0 K=K []:=rfl
@[go_sem ↓] theorem Zml (p:Option Addr)(j n:Nat)(K:List Value->Prop):GK L h p j (n+1) K=Um L h p j fun v=>GK L h p (j+1) n fun vs=>K (v::vs):=rfl
@[go_sem ↓] theorem Yuf (b o j:Nat)(hb:h b=noC):Um L h (some ⟨b,o,none⟩) j K=Zch L b (o+j) K:=by
 simp [Um,Ymm,Zch,Zjq,Ud,hb,noC]
@[go_sem ↓] theorem Ysl (b ty o c:Nat)(cs:List Value)(hT:ty≠4294967295):Zch (⟨b,ty,cs,c⟩::L) b o K=Jq o (fun o=>VE cs o K) ⟨⟩:=by
 simp [Zch,VE,Jw,Jq,hT]
@[go_sem ↓] theorem Zff (b b' ty o c:Nat)(cs:List Value)(hne:b'≠b):Zch (⟨b',ty,cs,c⟩::L) b o K=Zch L b o K:=by
 simp [Zch,Jw,hne]
theorem Zai {a:Option Addr}{i j:Nat}{v:Value}(hv:Z9 h a (i+j)=some v)(K:Value->Prop):Um L h (UI a i) j K=K v:=by
 cases a with
 | none=>simp [Z9]at hv
 | some q =>
  simp only[Z9]at hv;split at hv
  ·rename_i hs;simp [Um,Ymm,Zjq,UI,Zmq,hs,hv]
  ·cases hv
@[go_sem ↓] theorem Yxe (b ty o c:Nat)(cs vs:List Value)(K:Own->Prop)(hT:ty≠4294967295) :
  Zci (⟨b,ty,cs,c⟩::L) b o vs K=(o+vs.length<=cs.length/\vs.all Value.oneCell'=true/\Jq (wr cs o vs) (fun cs=>K (⟨b,ty,cs,c⟩::L)) ⟨⟩):=by
 simp [Zci,Jq,hT]
@[go_sem ↓] theorem Zll (b b' ty o c:Nat)(cs vs:List Value)(K:Own->Prop)(hne:b'≠b) :
  Zci (⟨b',ty,cs,c⟩::L) b o vs K=Zci L b o vs fun L'=>K (⟨b',ty,cs,c⟩::L'):=by
 simp [Zci,hne]
theorem Yiz (n:Nat)(g:Bool)(z:List Value)(by' b o:Nat)(v:Value)(K:Own->Prop):xSt ⟨n,g,z,by'⟩ L (some ⟨b,o,none⟩) v K=(v.cells.size=n/\Zci L b o v.cells.toList K):=by
 apply propext;constructor
 ·rintro⟨b',o',e,hs,hk⟩;injection e with e;injection e with e1 e2;subst e1;subst e2;exact⟨hs,hk⟩
 ·intro ⟨hs,hk⟩;exact⟨_,_,rfl,hs,hk⟩
@[go_sem ↓] theorem xSt_agg (n:Nat)(g:Bool)(z:List Value)(by' b o:Nat)(l:List Value)(K:Own->Prop):xSt ⟨n,g,z,by'⟩ L (some ⟨b,o,none⟩) (.agg l.toArray) K=(l.length=n/\Zci L b o l K):=Yiz n g z by' b o _ K
theorem Zhn (g:Bool)(z:List Value)(by' b o:Nat)(v:Value)(K:Own->Prop)(hv:v.oneCell'=true):xSt ⟨1,g,z,by'⟩ L (some ⟨b,o,none⟩) v K=Zci L b o [v] K:=by
 have:v.cells=#[v]:=by cases v<;>first|rfl|cases hv
 rw[Yiz,this];simp
section
variable (g:Bool) (z:List Value) (by' b o:Nat) (K:Own->Prop)
@[go_sem ↓] theorem xSt_int (k:IntKind)(n:Int):xSt ⟨1,g,z,by'⟩ L (some ⟨b,o,none⟩) (.int k n) K=Zci L b o [.int k n] K:=Zhn g z by' b o _ K rfl
@[go_sem ↓] theorem Yxs (n:Bool):xSt ⟨1,g,z,by'⟩ L (some ⟨b,o,none⟩) (.bool n) K=Zci L b o [.bool n] K:=Zhn g z by' b o _ K rfl
@[go_sem ↓] theorem Yuo (a:Option Addr)(n c:Nat):xSt ⟨1,g,z,by'⟩ L (some ⟨b,o,none⟩) (.slice a n c) K=Zci L b o [.slice a n c] K:=Zhn g z by' b o _ K rfl
end
@[go_sem] theorem Yiy (k:IntKind)(n:Int):(Value.int k n).oneCell'=true:=rfl
@[go_sem] theorem Yeo (b:Bool):(Value.bool b).oneCell'=true:=rfl
@[go_sem] theorem Yco (a:Option Addr)(n c:Nat):(Value.slice a n c).oneCell'=true:=rfl
end
section
variable {K:Value->Prop} {L:Own} {h:PH} {a:Option Addr}
theorem idx {n:Nat}{f:Nat->Value}(hc:∀j,j<n->Z9 h a j=some (f j)) :
  (∀(c e by':Nat) (k:IntKind) (j:Int) (K:Value->Prop) (t:Zm K),0<=j->j<(n:Int)->xIA (.sl e 1 by') (.slice a n c) (.int k j) K t=K (.pointer (UI a j.toNat))) /\
  (∀(j:Nat) (K:Option Addr->Prop) (t:Zm K),j<n->Zqb (.pointer (UI a j)) K t=K (UI a j)) /\
  (∀(L:Own) (j:Nat) (K:Value->Prop) (t:Zm K),j<n->Um L h (UI a j) 0 K t=K (f j)):=by
 have hne:∀j,j<n->a≠none:=fun j hj e=>by
  have:=hc j hj;rw[e]at this;simp [Z9]at this
 refine⟨fun c e by' k j K t h0 h1=>?_,fun j K t hj=>GA (hne j hj) K,fun L j K t hj=>Zai (by simpa using hc j hj) K⟩;have:=Zqc (hne j.toNat qf) e 1 by' n c k j h0 h1 K t
 rw[this,Nat.mul_one]
end
section
variable {K:Value->Prop} {T ty:Nat}
@[go_sem ↓] theorem Yhh (ats:Array Nat)(v:Value)(L:Own)(h:PH)(K:PK):UO P .len ats ty [v] L h K=Zbk P ty ats v fun r=>Jq r fun r=>K r L h:=by
 apply propext;constructor
 ·rintro⟨u,hu,hk⟩;injection hu with hu;subst hu;exact hk
 ·intro hk;exact⟨v,rfl,hk⟩
theorem Yy {T:Nat}{e:Nat}(hT:P.underlying T=some (.slice e))(a:Option Addr)(n c:Nat):Zbk P ty #[T] (.slice a n c) K=K (.int .i64 n) :=
 Yw (fun W=>by simp [Builtin.len_,underlying,hT,goInt]) K
theorem W5 (ats:Array Nat)(k l:IntKind)(a b:Int)(L:Own)(h:PH)(K:PK):UO P .max ats ty [.int k a,.int l b] L h K=K (.int k (max a b)) L h:=by
 have:xMM P true ats ty [.int k a,.int l b] (fun r=>Jq r (fun r=>K r L h) ⟨⟩)=K (.int k (max a b)) L h:=by
  refine Yw (fun W=>?_) _;simp [Builtin.max_,Builtin.max2,Int.max_def];omega
 exact this
theorem Uz {s d:Nat}{ks kd:IntKind}(hs:P.underlying s=some (.int ks))(hd:P.underlying d=some (.int kd))(k:IntKind)(n:Int):Zej P s d (.int k n) K=K (.int kd (kd.wrap n)) :=
 Yw (fun W=>by simp [convert,underlying,hs,hd,Conv.intToInt]) K
end
section
variable {K:Value->Prop}
theorem Yn {t:Nat}{z:List Value}{pl:List (Nat×Nat)}(hb:bPl P t=some (z,pl))(ps:List (Nat×Value))(K:Value->Prop):Y4 P t ps.toArray K=YB z pl ps fun z'=>K (.agg z'.toArray):=by
 apply propext;constructor
 ·rintro⟨z',pl',h1,h2⟩;rw[hb]at h1;injection h1 with h1;injection h1 with e1 e2;subst e1;subst e2;exact h2
 ·intro h2;exact⟨z,pl,hb,h2⟩
@[go_sem ↓] theorem Yun (z:List Value)(pl:List (Nat×Nat))(K:List Value->Prop):YB z pl [] K=K z:=rfl
theorem Wc {t n e:Nat}{z:List Value}{pl:List (Nat×Nat)}(hb:bSl P t n=some (e,z,pl))(ps:List (Nat×Value))(K:TypeId->List Value->Prop):xBS P t n ps.toArray K=YB z pl ps fun cs=>K e cs:=by
 apply propext;constructor
 ·rintro⟨e',z',pl',h1,h2⟩;rw[hb]at h1;injection h1 with h1;injection h1 with e1 e2;injection e2 with e2 e3;subst e1;subst e2;subst e3;exact h2
 ·intro h2;exact⟨e,z,pl,hb,h2⟩
def Yye (pl:List (Nat×Nat))(i:Nat)(K:Nat->Nat->Prop)(_:Zm K:=⟨⟩):Prop :=
 match pl[i]? with
 | some (off,size)=>K off size
 | none=>False
@[go_sem ↓] theorem Yod (z:List Value)(pl:List (Nat×Nat))(i:Nat)(v:Value)(ps:List (Nat×Value))(K:List Value->Prop) :
  YB z pl ((i,v)::ps) K=Yye pl i fun off size=>v.cells.size=size/\off+size<=z.length/\Jq (wr z off v.cells.toList) fun z'=>YB z' pl ps K:=rfl
@[go_sem ↓] theorem Yqe (off size:Nat)(pl:List (Nat×Nat))(K:Nat->Nat->Prop):Yye ((off,size)::pl) 0 K=K off size:=rfl
@[go_sem ↓] theorem Ypq (q:Nat×Nat)(pl:List (Nat×Nat))(i:Nat)(K:Nat->Nat->Prop):Yye (q::pl) (i+1) K=Yye pl i K:=rfl
@[go_sem ↓ high] theorem wr_map (k:IntKind)(zs:List Int)(o:Nat)(z:Int):wr (zs.map (Value.int k)) o [.int k z]=(zs.set o z).map (Value.int k):=by simp [wr,List.map_set]
@[go_sem] theorem wr_nil (cs:List Value)(o:Nat):wr cs o []=cs:=rfl
@[go_sem] theorem wr_cons (cs:List Value)(o:Nat)(v:Value)(vs:List Value):wr cs o (v::vs)=wr (cs.set o v) (o+1) vs:=rfl
end
section
variable {L:Own} {h:PH} {E:Env} {K:List Value->Prop} {rs:List ResultVar}
@[go_sem ↓] theorem Ywk:Zrp P L h E [] K=K []:=rfl
@[go_sem ↓] theorem Ywl (t:Nat):Zrp P L h E (.tmp t::rs) K=J6 E t fun v=>Zrp P L h E rs fun vs=>K (v::vs):=rfl
@[go_sem ↓] theorem Yrz (a t:Nat):Zrp P L h E (.cell a t::rs) K=J6 E a fun v=>Zqb v fun p=>xTI P t fun ti=>xLd ti L h p fun v=>Zrp P L h E rs fun vs=>K (v::vs):=rfl
@[go_sem] theorem Yvw (v:Value):Yhu [v]=v:=rfl
@[go_sem] theorem Ywt (v u:Value)(vs:List Value):Yhu (v::u::vs) = .tuple (v::u::vs).toArray:=rfl
@[go_sem] theorem Yxt:Yhu [] = .tuple #[]:=rfl
theorem ZO {K:PK}{v:Value}{e:Zn}(hk:fin K v L h):fin K v (e::L) h:=by
 obtain⟨L',h',hd,hk⟩:=hk;exact⟨L',h',(Za.tail e L h).trans hd,hk⟩
theorem ZP {K:PK}{v:Value}(hk:K v L h):fin K v L h:=⟨L,h,Za.refl L h,hk⟩
end
@[go_sem high] theorem Ywq (n:Int)(h0 : -9223372036854775808<=n)(h1:n<=9223372036854775807):IntKind.i64.wrap n=n:=by
 simp only[IntKind.wrap,IntKind.bits,IntKind.signed];simp;omega
@[go_sem high] theorem Yxj (n:Int)(h0:0<=n)(h1:n<=18446744073709551615):IntKind.u64.wrap n=n:=by
 simp only[IntKind.wrap,IntKind.bits,IntKind.signed];simp;omega
@[go_sem high] theorem wrap_u8 (n:Int)(h0:0<=n)(h1:n<=255):IntKind.u8.wrap n=n:=by
 simp only[IntKind.wrap,IntKind.bits,IntKind.signed];simp;omega
theorem Zng (n:Int):IntKind.u8.wrap n=n%256:=by
 simp only[IntKind.wrap,IntKind.bits,IntKind.signed];simp
theorem Ju (n:Int):IntKind.u64.wrap n=n%18446744073709551616:=by
 simp only[IntKind.wrap,IntKind.bits,IntKind.signed];simp
@[go_sem high] theorem Ywb (a b:Int)(h0:0<=a)(_h1:0<b):a.tdiv b=a/b:=Int.tdiv_eq_ediv_of_nonneg h0
@[go_sem high] theorem Ywp (a b:Int)(h0:0<=a)(_h1:0<b):a.tmod b=a%b:=Int.tmod_eq_emod_of_nonneg h0
end Go.X

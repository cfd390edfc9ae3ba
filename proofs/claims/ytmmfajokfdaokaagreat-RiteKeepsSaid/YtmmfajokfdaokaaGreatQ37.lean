/- Lemmas and contracts. Conditions: as each says. -/
import Derived.Test.YtmmfajokfdaokaaGreatQ36
set_option linter.unusedVariables false
set_option linter.unusedSimpArgs false
set_option maxHeartbeats 12800000
set_option maxRecDepth 20000
namespace Go.X
open Go.RowKit Go.Proofs Go.Bl Go.Proofs.Tryz
variable {L:Own} {h:PH} {K:PK}
theorem Zxe {p:Ze}{i:Nat}{a acct:Int}{x:CrX}{m:Zc}(hm:m=gr ZS x.ms i):Zqg p i a acct x=⟨x.ms.set i (JU p m a),x.ps.set acct.toNat (at0 x.ps acct.toNat+(a-WK p m a)),if (JU p m a).status=m.status then x.en else x.en++[(i:Int)]⟩:=by rw[hm];rfl
theorem Zpm {bb pn:Nat}{om oe:Option (Nat×Nat)}{s:Zf}{v:SV}{r:Zk}{q:RV}{w:Int}{d:Zn}{ex:List Int}{T:Int}(ok:Zj s.par)(hr:Ym s.par=true)(hpn:pn≤64)(cr:ZL ex ⟨s.members,s.purses,s.entry⟩ pn T)(hT:T+d.amt≤4611686018427387904)(hda:0≤d.amt)(hac:0≤d.acct∧d.acct<pn)(hmem:d.new=true∨(0≤d.mem∧d.mem<s.members.length))(hp:Ints h .u64 v.p s.purses)(hm:v.m=ovs om s.members.length)(okm:okO om s.members.length)(he:v.e=ovs oe s.entry.length)(oke:okO oe s.entry.length)
    (hk:∀h' pv om' oe',PH.le h h'→okO om' (WX s.par d ⟨s.members,s.purses,s.entry⟩).ms.length→okO oe' (WX s.par d ⟨s.members,s.purses,s.entry⟩).en.length→Ints h' .u64 pv (WX s.par d ⟨s.members,s.purses,s.entry⟩).ps →
      K (.tuple #[]) (tB bb { s with members:=(WX s.par d ⟨s.members,s.purses,s.entry⟩).ms,purses:=(WX s.par d ⟨s.members,s.purses,s.entry⟩).ps,entry:=(WX s.par d ⟨s.members,s.purses,s.entry⟩).en } { v with p:=pv,m:=ovs om' (WX s.par d ⟨s.members,s.purses,s.entry⟩).ms.length,e:=ovs oe' (WX s.par d ⟨s.members,s.purses,s.entry⟩).en.length } r q w::tMo om' (WX s.par d ⟨s.members,s.purses,s.entry⟩).ms (oent 3 1 oe' ((WX s.par d ⟨s.members,s.purses,s.entry⟩).en.map (.int .i64)) L)) h') :
    Zb prog 157 [.pointer (some ⟨bb,0,none⟩),depV d] (tB bb s v r q w::tMo om s.members (oent 3 1 oe (s.entry.map (.int .i64)) L)) h K:=by
  obtain⟨vp,vm,ve,vx,vo,vd,vt,vk,vr⟩:=v;simp only at hm hp he hk ⊢;subst hm;subst he;have crl:=cr.l1;have crp:=cr.l2;have crn:=V8 cr.e;have crt:=cr.t;have crb:=cr.b.bal;have crq:=cr.b.pur;simp only at crl crp crn crt crb crq;have crs:=Zky ok (p:=s.par) (by omega) cr hda hac hmem;obtain⟨X,hX⟩:∃X,X=WX s.par d ⟨s.members,s.purses,s.entry⟩:=⟨_,rfl⟩
  rw[← hX]at crs hk;have xt:=crs.t;have xb:=crs.b.bal;have xp:=(crs.b.le d.acct.toNat).2;refine Z4 func157 rfl (rs:=[]) rfl rfl ZY (by kernel_rfl) rfl rfl fun ap nd=>?_;have hbb:h bb=noC:=ap.1;have hom:apO om [] h:=Y1 ap.2;have nmb:apB om bb:=YH nd.1;clear ap nd;refine xx ?_;refine Z6 fun b3 nb3 zb3=>?_;(try simp only[ZU]at nb3);have n3b:=nb3.1;have nm3:apB om b3:=YH nb3.2;clear nb3;refine xx ?_
  cases hnew:d.new with
  | true =>
    have eX:X=if 128≤s.members.length then ⟨s.members,s.purses.set d.acct.toNat (at0 s.purses d.acct.toNat+d.amt),s.entry⟩ else Zqg s.par s.members.length d.amt d.acct ⟨s.members++[⟨0,0,0,0,d.acct,4⟩],s.purses,s.entry⟩:=by rw[hX,WX,hnew,if_pos rfl]
    obtain⟨ma,mc,em,_⟩:=Yh okm;by_cases c1:128≤s.members.length
    · rw[if_pos c1]at eX;rw[eX]at hk xp xt;simp only at hk xp xt;rw[VF _ _ _ _ (by omega),if_pos rfl]at xp;have b0:=cr.b.bal;simp only at b0;simp -dsimp -implicitDefEqProofs (disch:=first|with_reducible assumption|omega) [go_sem,em];rw[← em];refine YV (U4 (s:=s) hp (by omega) d.acct (by omega) d.amt hda (by omega) fun h1 r1 le1 i1=>?_);refine xx ?_;exact⟨_,_,(Za.perm _ (List.Perm.swap _ _ _)).trans (Za.tail _ _ _),hk h1 r1 om oe le1 okm oke i1⟩
    rw[if_neg c1]at eX;simp -dsimp -implicitDefEqProofs (disch:=first|with_reducible assumption|omega) [go_sem,em];rw[← em];refine Wr (.tk 0 (.tk 1 (.tk 2 (.tk 3 (.tk 4 (.tk 6 (.tkl 5 (.tkl 7 (.tk 8 (.o1 9 (.o1 10 (.tk 11 (.tk 12 (.tk 13 (.o2 14 (.fin) (.nil))))) (.nil)) (.nil))))))))))) (by kernel_rfl) (by kernel_rfl) [(0,.pointer (some ⟨bb,0,none⟩)),(3,.pointer (some ⟨b3,0,none⟩)),(4,.int .i64 s.members.length)] [_,_] (γ:=Option (Nat×Nat)) (fun om'=>okO om' (s.members.length+1)∧apO om' [] h∧apB om' bb∧apB om' b3) (fun _=>[(0,.pointer (some ⟨bb,0,none⟩)),(3,.pointer (some ⟨b3,0,none⟩)),(4,.int .i64 s.members.length)])
      (fun om'=>⟨b3,139,[.int .i64 d.acct,.int .i64 d.mem,.int .u64 d.amt,.bool true],4⟩::tB bb s ⟨vp,ovs om' (s.members.length+1),ovs oe s.entry.length,vx,vo,vd,vt,vk,vr⟩ r q w::tMo om' (s.members++[⟨0,0,0,0,d.acct,4⟩]) (oent 3 1 oe (s.entry.map (.int .i64)) L)) (fun _=>h) (by simp [Ent,List.lookup,WM]) Zkx ?_ ?_
    · refine xx ?_;refine Z6 fun b40 nb40 zb40=>?_;(try simp only[ZU]at nb40);refine xkp ((Za.tail _ _ _).trans Zkx) ?_;refine xx ?_;refine Z8 (t:=31) (e:=73) (sz:=6) (bytes:=48) (by kernel_rfl) Yja rfl rfl rfl rfl (by decide) [_,_,_] _ om s.members.length (s.members.flatMap YK) okm (Z3 Yb _) (Src.own (b:=b40) (t:=73) (cap:=6) List.mem_cons_self) (m:=1) (news:=YK ⟨0,0,0,0,d.acct,4⟩) rfl (Zqf _) (by simp [maxLen];omega) (by omega) ?_;intro om' j1 j2 j3;simp only[List.cons_append,List.nil_append]at j2 ⊢;refine xkp ((Za.tail _ _ _).trans Zkx) ?_;refine xx ?_;refine⟨om',⟨j1,?_,?_,?_⟩,by simp [Ent,List.lookup],?_⟩
      · cases om' with
        | none=>trivial
        | some p=>exact⟨trivial,j2.2⟩
      · cases om' with
        | none=>trivial
        | some p=>exact Ne.symm j2.1.2.2.1
      · cases om' with
        | none=>trivial
        | some p=>exact Ne.symm j2.1.2.1
      · simp only[tMo,List.flatMap_append,List.flatMap_cons,List.flatMap_nil,List.append_nil];exact Za.tail _ _ _
    rintro om' ⟨okm',hom',nmb',nm3'⟩;clear hom nmb nm3 em;obtain⟨bm,cm,rfl⟩:∃bm cm,om'=some (bm,cm):=by
      cases om' with
      | none=>have:s.members.length+1=0:=okm';omega
      | some p=>exact⟨_,_,rfl⟩
    obtain⟨MS,hMS⟩:∃MS,MS=s.members++[(⟨0,0,0,0,d.acct,4⟩:Zc)]:=⟨_,rfl⟩
    obtain⟨I,hI⟩:∃I,I=s.members.length:=⟨_,rfl⟩
    have hIl:I<MS.length:=by rw[hMS,List.length_append,hI];simp
    have eMl:s.members.length+1=MS.length:=by rw[hMS,List.length_append];rfl
    rw[← hMS,← hI]at eX;rw[← hMS];rw[eMl]at okm' ⊢;rw[← hI];have hMo:∀x∈MS,Zg x:=fun y hy=>by
      rw[hMS]at hy;rcases List.mem_append.1 hy with hy|hy
      · exact cr.b.m y hy
      · rw[List.mem_singleton]at hy;subst hy
        exact⟨fun z hz=>by simp at hz;omega,fun z hz=>by
          simp only[List.mem_cons,List.not_mem_nil,or_false]at hz
          rcases hz with rfl|rfl|rfl<;>omega⟩
    have hMt:tot (MS.map Zc.bal)=tot (s.members.map Zc.bal):=by
      rw[hMS];simp only[List.map_append,List.map_cons,List.map_nil,Zad,Vn,Zpi];omega
    have hMl:MS.length≤128:=by rw[← eMl];omega
    have hbm:h bm=noC:=hom'.2;have e1:NeB bb b3:=n3b;have e2:NeB bm b3:=nm3';have e3:NeB bb bm:=Ne.symm nmb';have e4:NeB b3 bm:=Ne.symm nm3';have e5:NeB b3 bb:=Ne.symm n3b;clear n3b nm3' nmb' hom';obtain⟨m,hmm⟩:∃m,m=gr ZS MS I:=⟨_,rfl⟩
    have mo:Zg m:=hMo m (by rw[hmm];exact YM hIl);have ub:=mo.u m.bal (by simp);have hbt:=YC (VC hMo) I;rw[VD hIl,← hmm]at hbt;obtain⟨g1',g2',g3',g4',g5',g6'⟩:=Zht ok mo hda;rw[Zxe hmm]at eX;rw[eX]at hk xp xt xb;simp only at hk xp xt xb;rw[VF _ _ _ _ (by omega),if_pos rfl]at xp;have hg:=Zuh hIl;rw[← hmm]at hg;obtain⟨g0,g1,g2,g3,g4,g5⟩:=hg;have hi6:=Wv (w:=6) hIl (show 5<6 by decide);have hsm:=Yea (ms:=MS) rfl;simp only[tMo,Yg,YX];simp -dsimp -implicitDefEqProofs (disch:=first|with_reducible assumption|omega) [go_sem,g5];obtain⟨M,hM⟩:∃M,M=JU s.par m d.amt:=⟨_,rfl⟩
    obtain⟨Z,hZ⟩:∃Z,Z=d.amt-WK s.par m d.amt:=⟨_,rfl⟩
    rw[← hM]at hk xt xb g6';rw[← hZ]at hk xp xt;refine Wr (.tk 0 (.tk 1 (.tk 2 (.tk 3 (.tk 5 (.tk 6 (.tk 7 (.tk 8 (.tk 10 (.tk 13 (.tkl 4 (.tkl 9 (.tk 11 (.tkl 12 (.tkl 14 (.o1 15 (.tk 16 (.tk 17 (.tk 18 (.o1 19 (.o2 20 (.tk 21 (.fin)) (.nil)) (.nil))))) (.o1 19 (.o1 15 (.tk 16 (.tk 17 (.tk 18 (.o2 20 (.tk 21 (.fin)) (.nil))))) (.nil)) (.nil)))))))))))))))))) (by kernel_rfl) (by kernel_rfl) [(0,.pointer (some ⟨bb,0,none⟩)),(3,.pointer (some ⟨b3,0,none⟩)),(4,.int .i64 I),(5,.int .i64 m.status)] _ (γ:=Nat) (fun b6=>bb≠b6∧bm≠b6∧b3≠b6∧h b6=noC)
      (fun b6=>[(0,.pointer (some ⟨bb,0,none⟩)),(3,.pointer (some ⟨b3,0,none⟩)),(4,.int .i64 I),(5,.int .i64 m.status),(6,.pointer (some ⟨b6,0,none⟩)),(7,.int .u64 Z)])
      (fun b6=>⟨b6,73,YK M,6⟩::⟨b3,139,[.int .i64 d.acct,.int .i64 d.mem,.int .u64 d.amt,.bool true],4⟩::tB bb s ⟨vp,.slice (some ⟨bm,0,none⟩) MS.length cm,ovs oe s.entry.length,vx,vo,vd,vt,vk,vr⟩ r q w::tM bm cm MS::oent 3 1 oe (s.entry.map (.int .i64)) L) (fun _=>h) (by simp [Ent,List.lookup,WM]) (Za.refl _ _) ?_ ?_
    · repeat' first
        | with_reducible refine YF ?_ ?_
        | simp -dsimp -implicitDefEqProofs (disch:=first|with_reducible assumption|omega) [go_sem,g0,g1,g2,g3,g4,g5]
        | (with_reducible refine Z6 fun b6 nb6 zb6 => ?_
           simp only[ZU]at nb6)
        | (with_reducible show UX prog 268 _ _ _ _
           refine Zdi s.par ok hr m mo d.amt ⟨hda,by omega⟩ (by omega) ?_
           rw[← hM,← hZ])
        | with_reducible refine xkp (Za.refl _ _) ?_
        | with_reducible refine xkp (Za.tail _ _ _) ?_
        | fail
      all_goals exact⟨b6,⟨nb6.2.1,nb6.2.2.1,nb6.1,zb6⟩,by simp [Ent,List.lookup],Za.refl _ _⟩
    rintro b6 ⟨n6b,n6m,n63,h6⟩;have f1:NeB bb b6:=n6b;have f2:NeB bm b6:=n6m;have f3:NeB b3 b6:=n63;have f4:NeB b6 bb:=Ne.symm n6b;have f5:NeB b6 bm:=Ne.symm n6m;have f6:NeB b6 b3:=Ne.symm n63;clear n6b n6m n63;simp only[YK];refine xx ?_;refine Yr (.tk 0 (.tk 1 (.tk 2 (.tk 3 (.tk 5 (.tkl 4 (.tkl 6 (.tk 7 (.o2 8 (.fin) (.nil)))))))))) (by kernel_rfl) (by kernel_rfl) _ (Za.refl _ _) ?_;refine xx ?_;refine⟨by omega,?_⟩;have hset:((((((MS.flatMap YK).set (I*6) (Value.int .u64 M.bal)).set (I*6+1) (.int .u64 M.eff)).set (I*6+1+1) (.int .u64 M.score)).set (I*6+1+1+1) (.int .i64 M.streak)).set (I*6+1+1+1+1) (.int .i64 M.owner)).set (I*6+1+1+1+1+1) (.int .i64 M.status)=(MS.set I M).flatMap YK:=Zcm Yb MS hIl M
    first
    | rw[hset]
    | (have hset' := hset
       simp only[YK]at hset'
       rw[hset'])
    try simp -dsimp -implicitDefEqProofs (disch:=first|with_reducible assumption|omega) [go_sem]
    refine Ziv (Zb.ap (U4 (s:={ s with members:=MS.set I M }) (v:=⟨vp,.slice (some ⟨bm,0,none⟩) MS.length cm,ovs oe s.entry.length,vx,vo,vd,vt,vk,vr⟩) hp (by show s.purses.length≤1000;omega) d.acct (by show 0≤d.acct∧d.acct<s.purses.length;omega) Z (by omega) (by show at0 s.purses d.acct.toNat+Z≤_;omega) fun h1 r1 le1 i1 ap=>?_));have hbb1:h1 bb=noC:=ap.1;have hb61:h1 b6=noC:=ap.2.1;have hb31:h1 b3=noC:=ap.2.2.1;clear ap
    try simp only
    refine xx ?_;have hMl2:(MS.set I M).length=MS.length:=List.length_set;by_cases c2:M.status=m.status
    · rw[if_pos c2]at hk;have hk:=hk h1 r1 (some (bm,cm)) oe le1 (by rw[hMl2];exact okm') oke i1;rw[hMl2]at hk;refine xx ?_;exact⟨_,_,(Za.perm _ (List.perm_middle (l₁:=[_,_])).symm).trans ((Za.tail _ _ _).trans (Za.tail _ _ _)),hk⟩
    · rw[if_neg c2]at hk;refine xx ?_;refine Z6 fun b98 nb98 zb98=>?_;(try simp only[ZU]at nb98);have f7:NeB b98 bb:=Ne.symm nb98.1;clear nb98;refine xx ?_;refine Z8 (t:=32) (e:=3) (sz:=1) (bytes:=8) (z:=[.int .i64 0]) (by kernel_rfl) Zem rfl rfl rfl rfl (by decide) [_,_,_,_,_] _ oe s.entry.length (s.entry.map (.int .i64)) oke (by simp) (Src.own (b:=b98) (t:=3) (cap:=1) List.mem_cons_self) (m:=1) (news:=[.int .i64 I]) rfl (fun u hu=>by simp at hu;subst hu;rfl) (by simp [maxLen];omega) (by omega) ?_;intro oe' j1 j2 j3;simp only[List.cons_append,List.nil_append];refine xx ?_;have hk:=hk h1 r1 (some (bm,cm)) oe' le1 (by rw[hMl2];exact okm') (by simpa using j1) i1;rw[hMl2]at hk;simp only[List.map_append,List.map_cons,List.map_nil,List.length_append,List.length_singleton]at hk;exact ZP ⟨_,_,(Za.perm _ (List.perm_middle (l₁:=[_,_])).symm).trans ((Za.tail _ _ _).trans (Za.tail _ _ _)),hk⟩
  | false =>
    have hme:0≤d.mem∧d.mem<s.members.length:=by
      rcases hmem with c|c
      · rw[hnew]at c;cases c
      · exact c
    obtain⟨I,hI⟩:=Int.eq_ofNat_of_zero_le hme.1;have eX:X=Zqg s.par I d.amt d.acct ⟨s.members,s.purses,s.entry⟩:=by rw[hX,WX,hnew,if_neg (by decide),hI,Int.toNat_natCast]
    obtain⟨bm,cm,rfl⟩:∃bm cm,om=some (bm,cm):=by
      cases om with
      | none=>have:s.members.length=0:=okm;omega
      | some p=>exact⟨_,_,rfl⟩
    have okm':=okm;have hom':=hom;have nmb':=nmb;have nm3':=nm3;clear hom nmb nm3;obtain⟨MS,hMS⟩:∃MS,MS=s.members:=⟨_,rfl⟩
    have hIl:I<MS.length:=by rw[hMS];omega
    rw[← hMS]at eX okm';rw[← hMS];have hMo:∀x∈MS,Zg x:=fun y hy=>cr.b.m y (by rw[hMS]at hy;exact hy);have hMt:tot (MS.map Zc.bal)=tot (s.members.map Zc.bal):=by rw[hMS]
    have hMl:MS.length≤128:=by rw[hMS];omega
    rw[hI];have hbm:h bm=noC:=hom'.2;have e1:NeB bb b3:=n3b;have e2:NeB bm b3:=nm3';have e3:NeB bb bm:=Ne.symm nmb';have e4:NeB b3 bm:=Ne.symm nm3';have e5:NeB b3 bb:=Ne.symm n3b;clear n3b nm3' nmb' hom';obtain⟨m,hmm⟩:∃m,m=gr ZS MS I:=⟨_,rfl⟩
    have mo:Zg m:=hMo m (by rw[hmm];exact YM hIl);have ub:=mo.u m.bal (by simp);have hbt:=YC (VC hMo) I;rw[VD hIl,← hmm]at hbt;obtain⟨g1',g2',g3',g4',g5',g6'⟩:=Zht ok mo hda;rw[Zxe hmm]at eX;rw[eX]at hk xp xt xb;simp only at hk xp xt xb;rw[VF _ _ _ _ (by omega),if_pos rfl]at xp;have hg:=Zuh hIl;rw[← hmm]at hg;obtain⟨g0,g1,g2,g3,g4,g5⟩:=hg;have hi6:=Wv (w:=6) hIl (show 5<6 by decide);have hsm:=Yea (ms:=MS) rfl;simp only[tMo,Yg,YX];simp -dsimp -implicitDefEqProofs (disch:=first|with_reducible assumption|omega) [go_sem,g5];obtain⟨M,hM⟩:∃M,M=JU s.par m d.amt:=⟨_,rfl⟩
    obtain⟨Z,hZ⟩:∃Z,Z=d.amt-WK s.par m d.amt:=⟨_,rfl⟩
    rw[← hM]at hk xt xb g6';rw[← hZ]at hk xp xt;refine Wr (.tk 0 (.tk 1 (.tk 2 (.tk 3 (.tk 5 (.tk 6 (.tk 7 (.tk 8 (.tk 10 (.tk 13 (.tkl 4 (.tkl 9 (.tk 11 (.tkl 12 (.tkl 14 (.o1 15 (.tk 16 (.tk 17 (.tk 18 (.o1 19 (.o2 20 (.tk 21 (.fin)) (.nil)) (.nil))))) (.o1 19 (.o1 15 (.tk 16 (.tk 17 (.tk 18 (.o2 20 (.tk 21 (.fin)) (.nil))))) (.nil)) (.nil)))))))))))))))))) (by kernel_rfl) (by kernel_rfl) [(0,.pointer (some ⟨bb,0,none⟩)),(3,.pointer (some ⟨b3,0,none⟩)),(4,.int .i64 I),(5,.int .i64 m.status)] _ (γ:=Nat) (fun b6=>bb≠b6∧bm≠b6∧b3≠b6∧h b6=noC)
      (fun b6=>[(0,.pointer (some ⟨bb,0,none⟩)),(3,.pointer (some ⟨b3,0,none⟩)),(4,.int .i64 I),(5,.int .i64 m.status),(6,.pointer (some ⟨b6,0,none⟩)),(7,.int .u64 Z)])
      (fun b6=>⟨b6,73,YK M,6⟩::⟨b3,139,[.int .i64 d.acct,.int .i64 I,.int .u64 d.amt,.bool false],4⟩::tB bb s ⟨vp,.slice (some ⟨bm,0,none⟩) MS.length cm,ovs oe s.entry.length,vx,vo,vd,vt,vk,vr⟩ r q w::tM bm cm MS::oent 3 1 oe (s.entry.map (.int .i64)) L) (fun _=>h) (by simp [Ent,List.lookup,WM]) (Za.refl _ _) ?_ ?_
    · repeat' first
        | with_reducible refine YF ?_ ?_
        | simp -dsimp -implicitDefEqProofs (disch:=first|with_reducible assumption|omega) [go_sem,g0,g1,g2,g3,g4,g5]
        | (with_reducible refine Z6 fun b6 nb6 zb6 => ?_
           simp only[ZU]at nb6)
        | (with_reducible show UX prog 268 _ _ _ _
           refine Zdi s.par ok hr m mo d.amt ⟨hda,by omega⟩ (by omega) ?_
           rw[← hM,← hZ])
        | with_reducible refine xkp (Za.refl _ _) ?_
        | with_reducible refine xkp (Za.tail _ _ _) ?_
        | fail
      all_goals exact⟨b6,⟨nb6.2.1,nb6.2.2.1,nb6.1,zb6⟩,by simp [Ent,List.lookup],Za.refl _ _⟩
    rintro b6 ⟨n6b,n6m,n63,h6⟩;have f1:NeB bb b6:=n6b;have f2:NeB bm b6:=n6m;have f3:NeB b3 b6:=n63;have f4:NeB b6 bb:=Ne.symm n6b;have f5:NeB b6 bm:=Ne.symm n6m;have f6:NeB b6 b3:=Ne.symm n63;clear n6b n6m n63;simp only[YK];refine xx ?_;refine Yr (.tk 0 (.tk 1 (.tk 2 (.tk 3 (.tk 5 (.tkl 4 (.tkl 6 (.tk 7 (.o2 8 (.fin) (.nil)))))))))) (by kernel_rfl) (by kernel_rfl) _ (Za.refl _ _) ?_;refine xx ?_;refine⟨by omega,?_⟩;have hset:((((((MS.flatMap YK).set (I*6) (Value.int .u64 M.bal)).set (I*6+1) (.int .u64 M.eff)).set (I*6+1+1) (.int .u64 M.score)).set (I*6+1+1+1) (.int .i64 M.streak)).set (I*6+1+1+1+1) (.int .i64 M.owner)).set (I*6+1+1+1+1+1) (.int .i64 M.status)=(MS.set I M).flatMap YK:=Zcm Yb MS hIl M
    first
    | rw[hset]
    | (have hset' := hset
       simp only[YK]at hset'
       rw[hset'])
    try simp -dsimp -implicitDefEqProofs (disch:=first|with_reducible assumption|omega) [go_sem]
    refine Ziv (Zb.ap (U4 (s:={ s with members:=MS.set I M }) (v:=⟨vp,.slice (some ⟨bm,0,none⟩) MS.length cm,ovs oe s.entry.length,vx,vo,vd,vt,vk,vr⟩) hp (by show s.purses.length≤1000;omega) d.acct (by show 0≤d.acct∧d.acct<s.purses.length;omega) Z (by omega) (by show at0 s.purses d.acct.toNat+Z≤_;omega) fun h1 r1 le1 i1 ap=>?_));have hbb1:h1 bb=noC:=ap.1;have hb61:h1 b6=noC:=ap.2.1;have hb31:h1 b3=noC:=ap.2.2.1;clear ap
    try simp only
    refine xx ?_;have hMl2:(MS.set I M).length=MS.length:=List.length_set;by_cases c2:M.status=m.status
    · rw[if_pos c2]at hk;have hk:=hk h1 r1 (some (bm,cm)) oe le1 (by rw[hMl2];exact okm') oke i1;rw[hMl2]at hk;refine xx ?_;exact⟨_,_,(Za.perm _ (List.perm_middle (l₁:=[_,_])).symm).trans ((Za.tail _ _ _).trans (Za.tail _ _ _)),hk⟩
    · rw[if_neg c2]at hk;refine xx ?_;refine Z6 fun b98 nb98 zb98=>?_;(try simp only[ZU]at nb98);have f7:NeB b98 bb:=Ne.symm nb98.1;clear nb98;refine xx ?_;refine Z8 (t:=32) (e:=3) (sz:=1) (bytes:=8) (z:=[.int .i64 0]) (by kernel_rfl) Zem rfl rfl rfl rfl (by decide) [_,_,_,_,_] _ oe s.entry.length (s.entry.map (.int .i64)) oke (by simp) (Src.own (b:=b98) (t:=3) (cap:=1) List.mem_cons_self) (m:=1) (news:=[.int .i64 I]) rfl (fun u hu=>by simp at hu;subst hu;rfl) (by simp [maxLen];omega) (by omega) ?_;intro oe' j1 j2 j3;simp only[List.cons_append,List.nil_append];refine xx ?_;have hk:=hk h1 r1 (some (bm,cm)) oe' le1 (by rw[hMl2];exact okm') (by simpa using j1) i1;rw[hMl2]at hk;simp only[List.map_append,List.map_cons,List.map_nil,List.length_append,List.length_singleton]at hk;exact ZP ⟨_,_,(Za.perm _ (List.perm_middle (l₁:=[_,_])).symm).trans ((Za.tail _ _ _).trans (Za.tail _ _ _)),hk⟩
section
variable {e0 s0 e1 s1 e2 s2 e3 s3 e4 s4:Nat} {o0 o1 o2 o3 o4:Option (Nat×Nat)} {X0 X1 X2 X3 X4:List Value} {a b c:Zo}
theorem permF:(oent e4 s4 o4 X4 (a::oent e0 s0 o0 X0 (oent e1 s1 o1 X1 (oent e2 s2 o2 X2 (oent e3 s3 o3 X3 L))))).Perm (a::oent e0 s0 o0 X0 (oent e1 s1 o1 X1 (oent e2 s2 o2 X2 (oent e3 s3 o3 X3 (oent e4 s4 o4 X4 L))))):=by
 refine oent_perm.symm.trans (List.Perm.cons _ ?_);refine(YL o4 o0 X4 X0 _).trans (Yf o0 X0 ?_);refine(YL o4 o1 X4 X1 _).trans (Yf o1 X1 ?_);refine(YL o4 o2 X4 X2 _).trans (Yf o2 X2 ?_);exact YL o4 o3 X4 X3 _
theorem Wcf:(a::oent e0 s0 o0 X0 (oent e1 s1 o1 X1 (oent e2 s2 o2 X2 (oent e3 s3 o3 X3 (oent e4 s4 o4 X4 L))))).Perm (a::oent e0 s0 o0 X0 (oent e4 s4 o4 X4 (oent e1 s1 o1 X1 (oent e2 s2 o2 X2 (oent e3 s3 o3 X3 L))))):=by
 refine permF.symm.trans ?_;refine oent_perm.symm.trans (List.Perm.cons _ ?_);exact YL o4 o0 X4 X0 _
theorem permO:(c::a::b::oent e1 s1 o1 X1 (oent e2 s2 o2 X2 (oent e3 s3 o3 X3 L))).Perm (a::b::oent e2 s2 o2 X2 (oent e3 s3 o3 X3 (c::oent e1 s1 o1 X1 L))):=by
 refine perm3.trans (List.Perm.cons _ (List.Perm.cons _ ?_));refine(List.Perm.cons _ ((YL o1 o2 X1 X2 _).trans (Yf o2 X2 (YL o1 o3 X1 X3 _)))).trans ?_;exact oent_perm.trans (Yf o2 X2 oent_perm)
end
structure StG where
 k:Nat
 h:PH
 d:Value
 oo:Option (Nat×Nat)
 os:Option (Nat×Nat)
structure CrG where
 k:Nat
 h:PH
 p:Value
 om:Option (Nat×Nat)
 oe:Option (Nat×Nat)
theorem Zuw {bb D:Nat}{om oe os oo ox:Option (Nat×Nat)}{s:Zf}{v:SV}{r:Zk}{q:RV}{w:Int}(ti:Zt s D)(hD:D≤30000)(hw:0≤w∧w≤1000)(hol:r.out.length≤700)(hsl:r.started.length≤700)(hp:Ints h .u64 v.p s.purses)(hd:Zh YT 3 h v.d s.dues)(hpo:Zh UY 4 h v.o s.pool)
    (hm:v.m=ovs om s.members.length) (okm:okO om s.members.length) (he:v.e=ovs oe s.entry.length) (oke:okO oe s.entry.length) (hx:v.x=ovs ox s.exit.length) (okx:okO ox s.exit.length) (ho:q.o=ovs oo r.out.length) (oko:okO oo r.out.length) (hs:q.s=ovs os r.started.length) (oks:okO os r.started.length)
    (hk:∀h' pv dv ov om' oe' os' oo',PH.le h h'→Ints h' .u64 pv (enS s r (min (s.ep+w) 2147483647)).purses→Zh YT 3 h' dv (enS s r (min (s.ep+w) 2147483647)).dues→Zh UY 4 h' ov (enS s r (min (s.ep+w) 2147483647)).pool →
      okO om' (enS s r (min (s.ep+w) 2147483647)).members.length→okO oe' (enS s r (min (s.ep+w) 2147483647)).entry.length→okO os' (enR s r (min (s.ep+w) 2147483647)).started.length→okO oo' (enR s r (min (s.ep+w) 2147483647)).out.length→okO ox (enS s r (min (s.ep+w) 2147483647)).exit.length →
      K (.tuple #[]) (tB bb (enS s r (min (s.ep+w) 2147483647)) { v with p:=pv,d:=dv,o:=ov,m:=ovs om' (enS s r (min (s.ep+w) 2147483647)).members.length,e:=ovs oe' (enS s r (min (s.ep+w) 2147483647)).entry.length,x:=ovs ox (enS s r (min (s.ep+w) 2147483647)).exit.length } (enR s r (min (s.ep+w) 2147483647)) { q with o:=ovs oo' (enR s r (min (s.ep+w) 2147483647)).out.length,s:=ovs os' (enR s r (min (s.ep+w) 2147483647)).started.length } w::tMo om' (enS s r (min (s.ep+w) 2147483647)).members (oent 3 1 oe' ((enS s r (min (s.ep+w) 2147483647)).entry.map (.int .i64)) (oent 3 1 os' ((enR s r (min (s.ep+w) 2147483647)).started.map (.int .i64)) (oent 3 1 oo' ((enR s r (min (s.ep+w) 2147483647)).out.map (.int .i64)) (oent 3 1 ox ((enS s r (min (s.ep+w) 2147483647)).exit.map (.int .i64)) L))))) h') :
    Zb prog 76 [.pointer (some ⟨bb,0,none⟩)] (tB bb s v r q w::tMo om s.members (oent 3 1 oe (s.entry.map (.int .i64)) (oent 3 1 os (r.started.map (.int .i64)) (oent 3 1 oo (r.out.map (.int .i64)) (oent 3 1 ox (s.exit.map (.int .i64)) L))))) h K:=by
  obtain⟨vp,vm,ve,vx,vo,vd,vt,vk,vr⟩:=v;obtain⟨qo,ql,qs,qd⟩:=q;simp only at hm hp hd hpo he hx ho hs hk ⊢;subst hm;subst he;subst hx;subst ho;subst hs;obtain⟨t,ht⟩:∃t,t=min (s.ep+w) 2147483647:=⟨_,rfl⟩
  rw[← ht]at hk;have hep:=ti.ep;have htb:0≤t∧t≤2147483647:=by omega
  have hml:=ti.ml;have hpl:=ti.pl;have hdn:=ti.dn;have hon:=ti.on;have hpc:=Ys ti.r;have hsum:=ti.sum;obtain⟨p1,p2,p3,p4,p5,p6⟩:=ti.parts;refine Z4 func76 rfl (rs:=[]) rfl rfl ZY (by kernel_rfl) rfl rfl fun ap nd=>?_;have hbb:h bb=noC:=ap.1;clear ap nd;refine xx ?_;refine xif (fun hq=>?_) (fun hq=>?_)
  rotate_left
  · have eS:enS s r t=s:=by unfold enS;rw[hq];rfl
    have eR:enR s r t=r:=by unfold enR;rw[hq];rfl
    rw[eS,eR]at hk;have hk:=hk h vp vd vo om oe os oo (PH.le_refl _) hp hd hpo okm oke oks oko okx;refine xx ?_;exact ZO hk
  have eS:enS s r t={ s with pool:=[],members:=(enY s r t).ms,purses:=(enX s).ps,entry:=(enX s).en.drop s.par.churn.toNat,dues:=(enY s r t).ds,exit:=(enY s r t).ex }:=by unfold enS;rw[hq];rfl
  have eR:enR s r t={ r with out:=(enY s r t).out,started:=(enY s r t).go }:=by unfold enR;rw[hq];rfl
  rw[eS,eR]at hk;simp only at hk;obtain⟨oa,oc,rfl,_,_,_,hos⟩:=hpo.open;refine xx ?_;obtain⟨N,hN⟩:∃N,N=s.pool.length:=⟨_,rfl⟩
  rw[← hN];refine YZ (γ:=CrG) ⟨0,h,vp,om,oe⟩ (fun y=>y.k≤N∧PH.le h y.h∧Ints y.h .u64 y.p (crK s.par s.pool ⟨s.members,s.purses,s.entry⟩ y.k).ps∧okO y.om (crK s.par s.pool ⟨s.members,s.purses,s.entry⟩ y.k).ms.length∧okO y.oe (crK s.par s.pool ⟨s.members,s.purses,s.entry⟩ y.k).en.length∧y.h bb=noC)
    (fun y=>[(28,.int .i64 y.k),(27,.int .i64 N),(26,.slice oa N oc),(0,.pointer (some ⟨bb,0,none⟩))])
    (fun y=>tB bb { s with pool:=[],members:=(crK s.par s.pool ⟨s.members,s.purses,s.entry⟩ y.k).ms,purses:=(crK s.par s.pool ⟨s.members,s.purses,s.entry⟩ y.k).ps,entry:=(crK s.par s.pool ⟨s.members,s.purses,s.entry⟩ y.k).en } ⟨y.p,ovs y.om (crK s.par s.pool ⟨s.members,s.purses,s.entry⟩ y.k).ms.length,ovs y.oe (crK s.par s.pool ⟨s.members,s.purses,s.entry⟩ y.k).en.length,ovs ox s.exit.length,.slice none 0 0,vd,vt,vk,vr⟩ r ⟨ovs oo r.out.length,ql,ovs os r.started.length,qd⟩ w::tMo y.om (crK s.par s.pool ⟨s.members,s.purses,s.entry⟩ y.k).ms (oent 3 1 y.oe ((crK s.par s.pool ⟨s.members,s.purses,s.entry⟩ y.k).en.map (.int .i64)) (oent 3 1 os (r.started.map (.int .i64)) (oent 3 1 oo (r.out.map (.int .i64)) (oent 3 1 ox (s.exit.map (.int .i64)) L))))) (fun y=>y.h) (fun y=>N-y.k) ?_ ?_ ?_ ?_
  · exact⟨Nat.zero_le _,PH.le_refl _,hp,okm,oke,hbb⟩
  · simp [Ent,List.lookup,WM]
  · exact Za.refl _ _
  rintro⟨k,h1,pv,om1,oe1⟩ ⟨k1,le1,ip,okm1,oke1,hbb1⟩;simp only at k1 le1 ip okm1 oke1 hbb1 ⊢;obtain⟨cr,crl⟩:=Ypt ti (k:=k) (by omega);by_cases c1:k<N
  · obtain⟨d,hdd⟩:∃d,d=gr Wd s.pool k:=⟨_,rfl⟩
    have hdm:d∈s.pool:=by rw[hdd];exact YM (by omega)
    obtain⟨d1,d2,d3,d4⟩:=ti.oo d hdm;obtain⟨cr2,_⟩:=Ypt ti (k:=k+1) (by omega);have hsk:=(Yac (l:=s.pool.map Zn.amt) (fun i=>Vw Zn.amt s.pool (fun x hx=>(ti.oo x hx).1.a.1) i) (k:=k+1) (by rw[List.length_map];omega)).2;have esk:YP (s.pool.map Zn.amt) (k+1)=YP (s.pool.map Zn.amt) k+d.amt:=by
      rw[YP,hdd,Yl (by omega),← Yx (by rw[List.length_map];omega),List.getElem_map]
    have eK:crK s.par s.pool ⟨s.members,s.purses,s.entry⟩ (k+1)=WX s.par d (crK s.par s.pool ⟨s.members,s.purses,s.entry⟩ k):=by rw[crK,hdd]
    obtain⟨X,hX⟩:∃X,X=crK s.par s.pool ⟨s.members,s.purses,s.entry⟩ k:=⟨_,rfl⟩
    rw[← hX]at ip okm1 oke1 cr crl eK ⊢;have hos1:=hos.up le1;simp -dsimp -implicitDefEqProofs (disch:=first|with_reducible assumption|omega) [go_sem,↓Zam Wd (by decide) hos1,UY];rw[← hdd];refine Z6 fun b4 nb4 zb4=>?_;(try simp only[ZU]at nb4);have n4:=nb4.1;clear nb4;simp -dsimp -implicitDefEqProofs (disch:=first|with_reducible assumption|omega) [go_sem,UY];refine Zb.weaken (Za.perm _ ((List.Perm.swap _ _ _).trans (List.Perm.cons _ (oent_perm.trans (Yf _ _ oent_perm))))) ?_;have crX:ZL s.exit ⟨X.ms,X.ps,X.en⟩ s.purses.length (tot s.purses+tot (s.members.map Zc.bal)+YP (s.pool.map Zn.amt) k):=cr;refine Zb.ap (Zpm (s:={ s with pool:=[],members:=X.ms,purses:=X.ps,entry:=X.en }) (v:=⟨pv,ovs om1 X.ms.length,ovs oe1 X.en.length,ovs ox s.exit.length,.slice none 0 0,vd,vt,vk,vr⟩) (om:=om1) (oe:=oe1) (d:=d) ti.ok.p ti.r hpl crX (by omega) d1.a.1 ⟨d2,d3⟩ (d4.imp id fun c=>⟨c.1,by show d.mem<(X.ms.length:Int);omega⟩) ip rfl okm1 rfl oke1 fun h2 p2 om2 oe2 le2 ok2 ok3 i2 ap=>?_);have hbb2:h2 bb=noC:=ap.1;clear ap;have eX:WX s.par d ⟨X.ms,X.ps,X.en⟩=WX s.par d X:=rfl;rw[eX]at ok2 ok3 i2 ⊢;refine xx ?_;refine⟨⟨k+1,h2,p2,om2,oe2⟩,⟨by simp only;omega,le1.trans le2,by rw[eK];exact i2,by rw[eK];exact ok2,by rw[eK];exact ok3,hbb2⟩,by simp only;omega,by simp [Ent,List.lookup],?_⟩;simp only;rw[eK];exact Za.sub (.cons_cons _ (J0 _ (J0 _ (List.sublist_cons_self _ _))))
  obtain rfl:N=k:=by omega
  have eXX:crK s.par s.pool ⟨s.members,s.purses,s.entry⟩ N=enX s:=by rw[hN];rfl
  obtain⟨cx,cxl⟩:=Yrt ti;obtain⟨ew1,ew2⟩:=en_w ti;rw[eXX]at ip okm1 oke1 ⊢;have cl1:=cx.l1;refine xx ?_;refine Yr (.tk 0 (.tk 1 (.tk 2 (.tk 3 (.tk 5 (.tk 6 (.tk 7 (.tk 8 (.tk 9 (.tkl 4 (.tkl 10 (.o1 11 (.tk 12 (.tk 13 (.tk 14 (.tk 15 (.tk 16 (.fin)))))) (.nil))))))))))))) (by kernel_rfl) (by kernel_rfl) [_] drop1 ?_;refine xx ?_;refine Zb.entr fun ap nd=>?_;have aoe:=Y1 (Ap.oent ap.2);clear ap nd;have lx:=Ws aoe ((enX s).en.map (.int .i64));have sx:=Vt (h:=h1) (sz:=1) (n:=(enX s).en.length) (o:=oe1) (xs:=(enX s).en.map (.int .i64)) oke1 (by simp) (by omega);refine Zb.weaken ((Za.perm h1 permL).trans (Wi oe1 _ _ h1 (by decide))) ?_
  generalize GG h1 oe1 ((enX s).en.map (.int .i64))=h2 at lx sx ⊢
  have ix:=J6 cx.e cl1 sx;clear aoe sx;obtain⟨R,hR⟩:∃R,R=(enX s).en.drop s.par.churn.toNat:=⟨_,rfl⟩
  refine Zb.apn (Zb.fin (Zgk _ ix (by omega) (fun z hz=>(Uv cx.e hz).1) cx.e.1 s.par.churn ⟨by omega,by omega⟩ fun h3 rv oe3 le3 iw ok3 ap3=>⟨_,_,Za.perm _ permF,fun ap nd=>?_⟩));have hbb3:h3 bb=noC:=ap.1;have hom3:apO om1 [] h3:=Y1 ap.2;have nmb:apB om1 bb:=YH nd.1;clear ap nd ap3;have le13:=lx.trans le3;refine xkp (drop1.trans (Za.forget le13)) ?_;have eW:(enX s).en.take s.par.churn.toNat=enW s:=rfl;rw[eW]at iw;rw[← hR]at ok3 hk ⊢;obtain⟨N,hN2⟩:∃N,N=(enW s).length:=⟨_,rfl⟩
  obtain⟨wa,wc,rfl,_,_,_,hws⟩:=iw.open;rw[← hN2]at hws ew1 ⊢;have hpx:tot (enX s).ps+tot ((enX s).ms.map Zc.bal)=tot s.purses+tot (s.members.map Zc.bal)+tot (s.pool.map Zn.amt):=cx.t;have hpp:=cx.b.pur;obtain⟨X0,hX0⟩:∃X0:StX,X0=⟨(enX s).ms,s.dues,s.exit,r.out,r.started⟩:=⟨_,rfl⟩
  have hst:=fun k (hk:k≤N)=>Zze ti r htb (k:=k) (by omega);rw[← hX0,← hR]at hst;have hda:=Zpj (p:=s.par) htb (enW s) (x:=X0) (rest:=R) (by rw[hX0];exact ti.dd) (fun k hk=>hst k (by omega)) (by rw[hX0];show WP s.dues+tot ((enX s).ms.map Zc.bal)≤_;omega);refine xx ?_;refine YZ (γ:=StG) ⟨0,h3,vd,oo,os⟩ (fun y=>y.k≤N∧PH.le h3 y.h∧Zh YT 3 y.h y.d (stK s.par t (enW s) X0 y.k).ds∧okO y.oo (stK s.par t (enW s) X0 y.k).out.length∧okO y.os (stK s.par t (enW s) X0 y.k).go.length∧okO ox (stK s.par t (enW s) X0 y.k).ex.length∧y.h bb=noC∧apO om1 [] y.h)
    (fun y=>[(58,.int .i64 y.k),(57,.int .i64 N),(56,.slice wa N wc),(0,.pointer (some ⟨bb,0,none⟩))])
    (fun y=>tB bb { s with pool:=[],members:=(stK s.par t (enW s) X0 y.k).ms,purses:=(enX s).ps,entry:=R,dues:=(stK s.par t (enW s) X0 y.k).ds,exit:=(stK s.par t (enW s) X0 y.k).ex } ⟨pv,ovs om1 (enX s).ms.length,ovs oe3 R.length,ovs ox (stK s.par t (enW s) X0 y.k).ex.length,.slice none 0 0,y.d,vt,vk,vr⟩ { r with out:=(stK s.par t (enW s) X0 y.k).out,started:=(stK s.par t (enW s) X0 y.k).go } ⟨ovs y.oo (stK s.par t (enW s) X0 y.k).out.length,ql,ovs y.os (stK s.par t (enW s) X0 y.k).go.length,qd⟩ w ::
      tMo om1 (stK s.par t (enW s) X0 y.k).ms (oent 3 1 y.os ((stK s.par t (enW s) X0 y.k).go.map (.int .i64)) (oent 3 1 y.oo ((stK s.par t (enW s) X0 y.k).out.map (.int .i64)) (oent 3 1 ox ((stK s.par t (enW s) X0 y.k).ex.map (.int .i64)) (oent 3 1 oe3 (R.map (.int .i64)) L))))) (fun y=>y.h) (fun y=>N-y.k) ?_ ?_ ?_ ?_
  · refine⟨Nat.zero_le _,PH.le_refl _,?_,?_,?_,?_,hbb3,hom3⟩
    · rw[show stK s.par t (enW s) X0 0=X0 from rfl,hX0];exact hd.up (le1.trans le13)
    · rw[show stK s.par t (enW s) X0 0=X0 from rfl,hX0];exact oko
    · rw[show stK s.par t (enW s) X0 0=X0 from rfl,hX0];exact oks
    · rw[show stK s.par t (enW s) X0 0=X0 from rfl,hX0];exact okx
  · simp [Ent,List.lookup]
  · rw[show stK s.par t (enW s) X0 0=X0 from rfl,hX0];exact Za.refl _ _
  rintro⟨k,h4,dv,oo1,os1⟩ ⟨k1,le4,id4,oko1,oks1,okx1,hbb4,hom4⟩;simp only at k1 le4 id4 oko1 oks1 okx1 hbb4 hom4 ⊢;have st:=hst k k1;have sl:(stK s.par t (enW s) X0 k).ms.length=(enX s).ms.length:=by rw[st.l1,hX0]
  have su:(stK s.par t (enW s) X0 k).out.length≤r.out.length+k:=by have:=st.u;rw[hX0]at this ⊢;exact this
  have sg:(stK s.par t (enW s) X0 k).go.length≤r.started.length+k:=by have:=st.g;rw[hX0]at this ⊢;exact this
  have sn:(stK s.par t (enW s) X0 k).ds.length≤s.dues.length+k:=by have:=st.n;rw[hX0]at this ⊢;exact this
  have stt:WP (stK s.par t (enW s) X0 k).ds+tot ((stK s.par t (enW s) X0 k).ms.map Zc.bal)=WP s.dues+tot ((enX s).ms.map Zc.bal):=by have:=st.t;rw[hX0]at this ⊢;exact this
  have sxl:=V8 st.rx;by_cases c1:k<N
  · have hd0:(enW s).drop k=at0 (enW s) k::(enW s).drop (k+1):=by rw[List.drop_eq_getElem_cons (by omega),Yx (by omega)]
    have hin:=Uv st.e (z:=at0 (enW s) k) (by rw[hd0];simp);obtain⟨i,hi⟩:=Int.eq_ofNat_of_zero_le hin.1;rw[hi]at hin;have hws4:∀j,j<N→Yo h4 wa j=some (.int .i64 (at0 (enW s) j)):=fun j hj=>Ve le4 (hws j hj);have eK:stK s.par t (enW s) X0 (k+1)=Zbi s.par t i (stK s.par t (enW s) X0 k):=by rw[stK,hi,Int.toNat_natCast]
    have hda1:=hda k (by omega);obtain⟨X,hX⟩:∃X,X=stK s.par t (enW s) X0 k:=⟨_,rfl⟩
    rw[← hX]at id4 oko1 oks1 okx1 st sl su sg sn stt sxl hin hda1 eK ⊢;have hi2:i<X.ms.length:=by omega
    obtain⟨bm,cm,rfl⟩:∃bm cm,om1=some (bm,cm):=by
      cases om1 with
      | none=>have:(enX s).ms.length=0:=okm1;omega
      | some p=>exact⟨_,_,rfl⟩
    have nmb':bm≠bb:=nmb;have hbm4:h4 bm=noC:=hom4.2;obtain⟨m,hmm⟩:∃m,m=gr ZS X.ms i:=⟨_,rfl⟩
    have mo:Zg m:=by rw[hmm];exact st.m _ (YM hi2)
    have hoo:=st.o _ (YM (z:=ZS) hi2);have hg:=Zuh hi2;rw[← hmm]at hg;obtain⟨g0,g1,g2,g3,g4,g5⟩:=hg;have hi6:=Wv (w:=6) hi2 (show 5<6 by decide);have hsm:=Yea (ms:=X.ms) rfl;simp only[tMo,Yg,YX];simp -dsimp -implicitDefEqProofs (disch:=first|with_reducible assumption|omega) [go_sem,idx hws4];rw[hi];obtain⟨M,hM⟩:∃M,M=Vk s.par m:=⟨_,rfl⟩
    refine Wr (.tk 0 (.tk 1 (.tk 2 (.tk 3 (.tk 5 (.tk 6 (.tk 7 (.tk 8 (.tk 10 (.tkl 4 (.tkl 9 (.tk 11 (.tkl 12 (.o1 13 (.tk 14 (.tk 15 (.tk 16 (.o1 17 (.o2 18 (.tk 19 (.fin)) (.nil)) (.nil))))) (.o1 17 (.o1 13 (.tk 14 (.tk 15 (.tk 16 (.o2 18 (.tk 19 (.fin)) (.nil))))) (.nil)) (.nil)))))))))))))))) (by kernel_rfl) (by kernel_rfl) [(0,.pointer (some ⟨bb,0,none⟩)),(8,.int .i64 i),(58,.int .i64 k),(57,.int .i64 N),(56,.slice wa N wc)] _ (γ:=Nat) (fun b9=>bb≠b9∧bm≠b9∧h4 b9=noC)
      (fun b9=>[(0,.pointer (some ⟨bb,0,none⟩)),(8,.int .i64 i),(58,.int .i64 k),(57,.int .i64 N),(56,.slice wa N wc),(9,.pointer (some ⟨b9,0,none⟩)),(10,.bool M.2)])
      (fun b9=>⟨b9,73,YK M.1,6⟩::tB bb { s with pool:=[],members:=X.ms,purses:=(enX s).ps,entry:=R,dues:=X.ds,exit:=X.ex } ⟨pv,.slice (some ⟨bm,0,none⟩) (enX s).ms.length cm,ovs oe3 R.length,ovs ox X.ex.length,.slice none 0 0,dv,vt,vk,vr⟩ { r with out:=X.out,started:=X.go } ⟨ovs oo1 X.out.length,ql,ovs os1 X.go.length,qd⟩ w ::
        tM bm cm X.ms::oent 3 1 os1 (X.go.map (.int .i64)) (oent 3 1 oo1 (X.out.map (.int .i64)) (oent 3 1 ox (X.ex.map (.int .i64)) (oent 3 1 oe3 (R.map (.int .i64)) L)))) (fun _=>h4) (by simp [Ent,List.lookup]) (Za.refl _ _) ?_ ?_
    · repeat' first
        | with_reducible refine YF ?_ ?_
        | simp -dsimp -implicitDefEqProofs (disch:=first|with_reducible assumption|omega) [go_sem,g0,g1,g2,g3,g4,g5]
        | (with_reducible refine Z6 fun b9 nb9 zb9 => ?_
           simp only[ZU]at nb9)
        | (with_reducible show UX prog 158 _ _ _ _
           refine Ztv s.par ti.ok.p ti.r m mo ?_
           rw[← hM])
        | with_reducible refine xkp (Za.refl _ _) ?_
        | with_reducible refine xkp (Za.tail _ _ _) ?_
        | fail
      all_goals exact⟨b9,⟨nb9.1,nb9.2.1,zb9⟩,by simp [Ent,List.lookup],Za.refl _ _⟩
    rintro b9 ⟨n9b,n9m,h9⟩;obtain⟨M1,M2⟩:=M;simp only;have stp:=Zmi ti.ok.p ti.r mo;rw[← hM]at stp;simp only at stp;have eK2:stK s.par t (enW s) X0 (k+1)=if M2 then { X with ms:=X.ms.set i M1,go:=X.go++[(i:Int)] } else ⟨X.ms.set i (Zwf m),GH X.ds (Gc t m),flt X.ex i,X.out++[(i:Int)],X.go⟩:=by
      rw[eK,Zbi,← hmm,← hM]
    have hbt:=YC (VC st.m) i;rw[VD hi2,← hmm]at hbt
    cases M2 with
    | true =>
      rw[if_pos rfl]at eK2;simp only[YK];refine xx ?_;refine Yr (.tk 0 (.tk 1 (.tk 2 (.tk 3 (.tk 5 (.tkl 4 (.tkl 6 (.tk 7 (.o2 8 (.fin) (.nil)))))))))) (by kernel_rfl) (by kernel_rfl) _ (Za.refl _ _) ?_;refine xx ?_;refine⟨by omega,?_⟩;have hset:((((((X.ms.flatMap YK).set (i*6) (Value.int .u64 M1.bal)).set (i*6+1) (.int .u64 M1.eff)).set (i*6+1+1) (.int .u64 M1.score)).set (i*6+1+1+1) (.int .i64 M1.streak)).set (i*6+1+1+1+1) (.int .i64 M1.owner)).set (i*6+1+1+1+1+1) (.int .i64 M1.status)=(X.ms.set i M1).flatMap YK:=Zcm Yb X.ms hi2 M1
      first
      | rw[hset]
      | (have hset' := hset
         simp only[YK]at hset'
         rw[hset'])
      try simp -dsimp -implicitDefEqProofs (disch:=first|with_reducible assumption|omega) [go_sem]
      refine Z6 fun b99 nb99 zb99=>?_;(try simp only[ZU]at nb99);have n99:bb≠b99:=nb99.2.1;clear nb99;refine xx ?_;refine Z8 (t:=32) (e:=3) (sz:=1) (bytes:=8) (z:=[.int .i64 0]) (by kernel_rfl) Zem rfl rfl rfl rfl (by decide) [_,_,_,_] _ os1 X.go.length (X.go.map (.int .i64)) oks1 (by simp) (Src.own (b:=b99) (t:=3) (cap:=1) List.mem_cons_self) (m:=1) (news:=[.int .i64 i]) rfl (fun u hu=>by simp at hu;subst hu;rfl) (by simp [maxLen];omega) (by omega) ?_;intro os2 j1 j2 j3;simp only[List.cons_append,List.nil_append];refine xx ?_;refine⟨⟨k+1,h4,dv,oo1,os2⟩,⟨by simp only;omega,le4,by rw[eK2];exact id4,by rw[eK2];exact oko1,by rw[eK2];simpa using j1,by rw[eK2];exact okx1,hbb4,hom4⟩,by simp only;omega,by simp [Ent,List.lookup],?_⟩;simp only;rw[eK2];simp only[List.map_append,List.map_cons,List.map_nil,List.length_append,List.length_singleton,tMo,Yg,YX];exact(Za.tail _ _ _).trans (Za.tail _ _ _)
    | false =>
      rw[if_neg (by decide)]at eK2;refine xx ?_;have how2:0≤(gr ZS X.ms i).owner∧(gr ZS X.ms i).owner≤63:=by omega
      have hbt2:WP X.ds+(gr ZS X.ms i).bal≤4611686018427387904:=by rw[← hmm];omega
      refine Zb.fin (Zb.weaken (Za.perm _ permO) (Zb.ap (Zrl (s:={ s with pool:=[],members:=X.ms,purses:=(enX s).ps,entry:=R,dues:=X.ds,exit:=X.ex }) (v:=⟨pv,.slice (some ⟨bm,0,none⟩) (enX s).ms.length cm,ovs oe3 R.length,ovs ox X.ex.length,.slice none 0 0,dv,vt,vk,vr⟩) (r:={ r with out:=X.out,started:=X.go }) (q:=⟨ovs oo1 X.out.length,ql,ovs os1 X.go.length,qd⟩) (by rw[sl]) (by show X.ms.length≤900;omega) st.m id4 st.d (by show X.ds.length≤32000;omega) i hi2 how2 hw (by show 0≤s.ep∧s.ep≤_;omega) hbt2 rfl okx1 (by show X.ex.length≤900;omega) rfl oko1 (by show X.out.length≤900;omega) fun h5 d5 oo5 le5 i5 ok5 ap=>⟨_,_,Za.perm _ permO.symm,?_⟩)));have hbb5:h5 bb=noC:=ap.1;have hbm5:apO (some (bm,cm)) [] h5:=⟨trivial,ap.2.1⟩
      clear ap;refine xx ?_;have ew:GH X.ds (Gc t m)=GH X.ds (Gc (min (s.ep+w) 2147483647) (gr ZS X.ms i)):=by rw[ht,hmm]
      have em:Zwf m=Zaf (gr ZS X.ms i) 4:=by rw[hmm];rfl
      refine⟨⟨k+1,h5,d5,oo5,os1⟩,⟨by simp only;omega,le4.trans le5,by rw[eK2,ew];exact i5,by rw[eK2];simpa using ok5,by rw[eK2];exact oks1,by rw[eK2];exact Zru okx1 (Yau _ _),hbb5,hbm5⟩,by simp only;omega,by simp [Ent,List.lookup],?_⟩;simp only;rw[eK2,ew,em];simp only[List.map_append,List.map_cons,List.map_nil,List.length_append,List.length_singleton,tMo,Yg,YX];exact Za.tail _ _ _
  obtain rfl:N=k:=by omega
  have eY:stK s.par t (enW s) X0 N=enY s r t:=by rw[hN2,hX0];rfl
  rw[eY]at id4 oko1 oks1 okx1 sl ⊢;have hk:=hk h4 pv dv (.slice none 0 0) om1 oe3 os1 oo1 (le1.trans (le13.trans le4)) (ip.up (le13.trans le4)) id4 (Zh.nil YW _) (by rw[sl];exact okm1) ok3 oks1 oko1 okx1;rw[sl]at hk;refine xx ?_;exact⟨_,_,Za.perm _ Wcf,hk⟩
open Go.RowKit Go.Proofs Go.Bl Go.Proofs.Tryz
variable {L:Own} {h:PH} {K:PK}
def csN (f:Zm→Zm)(l:List Zm):Nat→List Zm
 | 0=>l
 | k+1=>(csN f l k).set k (f (gr Yj l k))
theorem Gx (f:Zm→Zm)(l:List Zm):∀k,(csN f l k).length=l.length
 | 0=>rfl
 | k+1=>by rw[csN,List.length_set];exact Gx f l k
theorem Zrg (f:Zm→Zm)(l:List Zm):∀k,k≤l.length→∀j,gr Yj (csN f l k) j=if j<k then f (gr Yj l j) else gr Yj l j
 | 0,_,j=>by simp [csN]
 | k+1,hk,j=>by
  rw[csN,Ydg (by rw[Gx];omega)];by_cases e:j=k
  ·subst e;rw[if_pos rfl,if_pos (by omega)]
  ·rw[if_neg e,Zrg f l k (by omega) j];by_cases c:j<k
   ·rw[if_pos c,if_pos (by omega)]
   ·rw[if_neg c,if_neg (by omega)]
theorem Ynw (f:Zm→Zm)(l:List Zm):csN f l l.length=l.map f:=by
 refine List.ext_getElem (by rw[Gx,List.length_map]) fun j h1 h2=>?_;have hj:j<l.length:=by rwa [Gx]at h1
 rw[← Yl (z:=Yj) h1,Zrg f l _ (Nat.le_refl _),if_pos hj,Yl hj,List.getElem_map]
theorem Yhd (f:Zm→Zm)(l:List Zm){k:Nat}(hk:k<l.length)(hf:f (gr Yj l k)=gr Yj l k):csN f l (k+1)=csN f l k:=by
 have hl:=Gx f l k;have h1:=Zrg f l k (by omega) k;rw[if_neg (by omega),Yl (by omega)]at h1;rw[csN,hf,← h1,List.set_getElem_self]
structure ClG where
 k:Nat
 h:PH
 q:List QM
theorem permCl {e0 s0:Nat}{o0:Option (Nat×Nat)}{X0:List Value}{a b:Zo}{L:Own}:(a::b::oent e0 s0 o0 X0 L).Perm (oent e0 s0 o0 X0 (a::b::L)):=Yv [a,b]
theorem permCl3 {e0 s0:Nat}{o0:Option (Nat×Nat)}{X0:List Value}{a b c:Zo}{L:Own}:(a::b::c::oent e0 s0 o0 X0 L).Perm (oent e0 s0 o0 X0 (a::b::c::L)):=Yv [a,b,c]
theorem Yeo {e sz:Nat}{o:Option (Nat×Nat)}{xs:List Value}(A:Own){L:Own}(ap:Ap (A++oent e sz o xs L) h)(nd:Nd (A++oent e sz o xs L)):apO o (A++L) h:=by
 have ap:=ap.perm (Yv A);have nd:=nd.perm (Yv A)
 cases o with
 | none=>trivial
 | some p=>exact⟨nd.1,ap.1⟩
theorem Yfr {e sz:Nat}{o:Option (Nat×Nat)}{xs:List Value}{a b:Zo}{L:Own}(ap:Ap (a::b::oent e sz o xs L) h)(nd:Nd (a::b::oent e sz o xs L)):apO o (a::b::L) h:=Yeo [a,b] ap nd
theorem Yjq {e sz:Nat}{o:Option (Nat×Nat)}{xs:List Value}{a b c:Zo}{L:Own}(ap:Ap (a::b::c::oent e sz o xs L) h)(nd:Nd (a::b::c::oent e sz o xs L)):apO o (a::b::c::L) h:=Yeo [a,b,c] ap nd
theorem Zva {ql:List QM}{ms:List Zm}{l:List Zc}{om:Option (Nat×Nat)}(p:Ze)(ok:Zj p)(hen:0≤p.enact∧p.enact≤1000000)(ep:Int)(hep:0≤ep∧ep≤1073741824)(v:Value)(hv:Zh Y2 33 h v ql)(hq:ql.map (fun x=>x.2.2)=ms)(hm:Y7 h ql)(hl:ql.length≤1000)(hb:∀m∈ms,m.yes.length≤1000∧m.no.length≤1000)(okm:okO om l.length)(hml:l.length≤1000)(mo:∀x∈l,Zg x)(hA:Zen l≤18446744073709551615)
    (hk:∀h' r ql',PH.le h h'→Zh Y2 33 h' r ql'→ql'.map (fun x=>x.2.2)=Zza p l ep ms→Y7 h' ql'→K r (tMo om l L) h') :
    Zb prog 159 [VQ p,v,ovs om l.length,.int .i64 ep] (tMo om l L) h K:=by
  have hql:ql.length=ms.length:=by rw[← hq,List.length_map]
  have hv0:=hv;obtain⟨va,vc,rfl,_⟩:=hv.open;rw[hql]at hv0 ⊢;obtain⟨f,hf⟩:∃f,f=Zec p l ep:=⟨_,rfl⟩
  obtain⟨N,hN⟩:∃N,N=ms.length:=⟨_,rfl⟩
  refine Z4 func159 rfl (rs:=[_]) rfl rfl ZY (by kernel_rfl) rfl rfl fun ap nd=>?_;have hom:apO om [] h:=Y1 ap;have ndo:=nd;clear ap nd;refine xx ?_;refine Z6 fun b4 nb4 zb4=>?_;(try simp only[ZU]at nb4);have nm4:apB om b4:=YH nb4;clear nb4;refine xx ?_;refine Zb.apn (GW _ hv0 hq hm hl hb fun h5 o ql' le5 oko apo eq' mo' ap nd=>?_);have hql':ql'.length=ms.length:=by rw[← eq',List.length_map]
  have no4:apB o b4:=(Yaf nd).1;have nod:Nd (oent 75 33 o (ql'.flatMap Y2) (tMo om l L)):=(Yaf nd).2;have hb45:h5 b4=noC:=(Ap.oent ap).1;have hom5:apO om [] h5:=Y1 (Ap.oent ap).2;have hom6:apO o [] h5:=Y1 ap;clear ap nd apo;obtain⟨oa,oc,eo,_⟩:=Yh oko;rw[eo];refine xx ?_;rw[← hN];refine YZ (γ:=ClG) ⟨0,h5,ql'⟩ (fun y=>y.k≤N∧PH.le h5 y.h∧y.q.map (fun x=>x.2.2)=csN f ms y.k∧Y7 y.h y.q∧y.h b4=noC∧apO om [] y.h∧apO o [] y.h)
    (fun y=>[(18,.int .i64 y.k),(17,.int .i64 N),(9,.slice oa N oc),(2,ovs om l.length),(3,.int .i64 ep),(4,.pointer (some ⟨b4,0,none⟩))])
    (fun y=>oent 75 33 o (y.q.flatMap Y2) (⟨b4,24,Jb p,24⟩::tMo om l L)) (fun y=>y.h) (fun y=>N-y.k) ?_ ?_ ?_ ?_
  · exact⟨Nat.zero_le _,PH.le_refl _,eq',mo',hb45,hom5,hom6⟩
  · simp [Ent,List.lookup,WM,hN]
  · exact Za.refl _ _
  rintro⟨k,h6,q⟩ ⟨k1,le6,eq6,mo6,hb46,hom7,hom8⟩;simp only at k1 le6 eq6 mo6 hb46 hom7 hom8 ⊢;have hql6:q.length=N:=by rw[← List.length_map (f:=fun x:QM=>x.2.2),eq6,Gx,hN]
  by_cases c1:k<N
  · obtain ⟨bo,co,rfl⟩ : ∃ bt cap,o = some (bt,cap) := by
      cases o with
      | none=>have:ms.length=0:=oko;omega
      | some p=>exact⟨_,_,rfl⟩
    simp only[YX,Value.slice.injEq]at eo;obtain⟨rfl,_,rfl⟩:=eo;have hbo:h6 bo=noC:=hom8.2;have no4':bo≠b4:=no4;have nob:apB om bo:=by
      cases om with
      | none=>trivial
      | some p=>exact nod.1.1
    obtain⟨qk,hqk⟩:∃qk,qk=gr Yc q k:=⟨_,rfl⟩
    have hkq:k<q.length:=by omega
    have hmk:Zw h6 qk:=by rw[hqk,Yl hkq];exact mo6 _ (List.getElem_mem _)
    obtain⟨md,hmd⟩:∃md,md=qk.2.2:=⟨_,rfl⟩
    have egr:md=gr Yj ms k:=by
      rw[hmd,hqk,Znm eq6 (by rw[Gx];omega),Zrg _ _ _ (by omega),if_neg (by omega)]
    have hcs:csN f ms (k+1)=(csN f ms k).set k (f md):=by rw[csN,egr]
    have hsame:f md=md→csN f ms (k+1)=csN f ms k:=fun e=>Yhd f ms (by omega) (by rw[← egr];exact e);have g29:∀(K:Value→Prop) (t:Zq K),VP (q.flatMap Y2) (k*33+28) K t=K (.int .i64 md.ends):=fun K t=>Yq Z9 Yc q hkq (by decide) (by rw[← hqk,hmd];rfl) K t;have g30:∀(K:Value→Prop) (t:Zq K),VP (q.flatMap Y2) (k*33+30) K t=K (.int .i64 md.state):=fun K t=>Yq Z9 Yc q hkq (by decide) (by rw[← hqk,hmd];rfl) K t;have g31:∀(K:Value→Prop) (t:Zq K),VP (q.flatMap Y2) (k*33+31) K t=K qk.1:=fun K t=>Yq Z9 Yc q hkq (by decide) (by rw[← hqk];rfl) K t;have g32:∀(K:Value→Prop) (t:Zq K),VP (q.flatMap Y2) (k*33+32) K t=K qk.2.1:=fun K t=>Yq Z9 Yc q hkq (by decide) (by rw[← hqk];rfl) K t;have hk33:=Wv (n:=q.length) (w:=33) hkq (m:=32) (by decide);have hsum:(q.map fun a=>(Y2 a).length).sum=q.length*33:=by rw[← List.length_flatMap,Z3 Z9]
    simp only[Yg];by_cases s12:md.state=1∧md.ends≤ep
    rotate_left
    · have e1:f md=md:=by rw[hf,Zec,if_neg s12]
      have e2:=hsame e1;have fin:∀E,Ent E [(18,.int .i64 (k+1:Nat)),(17,.int .i64 N),(9,.slice (some ⟨bo,0,none⟩) N co),(2,ovs om l.length),(3,.int .i64 ep),(4,.pointer (some ⟨b4,0,none⟩))]→True:=fun _ _=>trivial;by_cases s1:md.state=1
      · have s2 : ep < md.ends := by
          have:=fun c=>s12 ⟨s1,c⟩;omega
        simp -dsimp -implicitDefEqProofs (disch:=first|with_reducible assumption|omega) [go_sem,g29,g30,s1];exact⟨⟨k+1,h6,q⟩,⟨by simp only;omega,le6,by rw[e2];exact eq6,mo6,hb46,hom7,hom8⟩,by simp only;omega,by simp [Ent,List.lookup],Za.refl _ _⟩
      · simp -dsimp -implicitDefEqProofs (disch:=first|with_reducible assumption|omega) [go_sem,g29,g30];exact⟨⟨k+1,h6,q⟩,⟨by simp only;omega,le6,by rw[e2];exact eq6,mo6,hb46,hom7,hom8⟩,by simp only;omega,by simp [Ent,List.lookup],Za.refl _ _⟩
    obtain⟨s1,s2⟩:=s12;have hy:=hmk.y;have hn:=hmk.n;obtain⟨ya,yc,ey,_⟩:=hy.open;obtain⟨na,nc,en,_⟩:=hn.open;rw[← hmd]at hy hn ey en;simp -dsimp -implicitDefEqProofs (disch:=first|with_reducible assumption|omega) [go_sem,g29,g30,s1];refine Wr (.tk 0 (.tk 1 (.tk 2 (.tk 3 (.tk 5 (.tk 6 (.tk 7 (.tkl 4 (.tkl 8 (.o1 9 (.tk 10 (.tk 11 (.tk 12 (.o1 13 (.o2 14 (.tk 15 (.fin)) (.nil)) (.nil))))) (.o1 13 (.o1 9 (.tk 10 (.tk 11 (.tk 12 (.o2 14 (.tk 15 (.fin)) (.nil))))) (.nil)) (.nil)))))))))))) (by kernel_rfl) (by kernel_rfl) [(2,ovs om l.length),(3,.int .i64 ep),(4,.pointer (some ⟨b4,0,none⟩)),(9,.slice (some ⟨bo,0,none⟩) N co),(11,.pointer (some ⟨bo,k*33,none⟩)),(17,.int .i64 N),(18,.int .i64 k)] [⟨bo,75,q.flatMap Y2,co*33⟩] (γ:=Nat×PH) (fun y=>PH.le h6 y.2∧y.2 y.1=noC∧b4≠y.1∧bo≠y.1∧apB om y.1∧y.2 b4=noC∧y.2 bo=noC∧apO om [] y.2)
      (fun y=>[(2,ovs om l.length),(3,.int .i64 ep),(4,.pointer (some ⟨b4,0,none⟩)),(9,.slice (some ⟨bo,0,none⟩) N co),(11,.pointer (some ⟨bo,k*33,none⟩)),(17,.int .i64 N),(18,.int .i64 k),(12,.pointer (some ⟨y.1,0,none⟩)),(13,.int .i64 0)])
      (fun y=>⟨y.1,348,[.int .u64 (Zea l md.yes),.int .u64 (Zea l md.no),.int .u64 (Zen l)],3⟩::⟨bo,75,q.flatMap Y2,co*33⟩::⟨b4,24,Jb p,24⟩::tMo om l L) (fun y=>y.2) (by simp [Ent,List.lookup]) drop1 ?_ ?_
    · repeat' first
        | with_reducible refine YF ?_ ?_
        | simp -dsimp -implicitDefEqProofs (disch:=first|with_reducible assumption|omega) [go_sem,g31,g32]
        | (with_reducible refine Z6 fun b12 nb12 zb12 => ?_
           simp only[ZU]at nb12)
        | (with_reducible show UX prog 270 _ _ _ _
           refine Zb.entr fun ap nd=>?_;refine Zb.fin (Zb.weaken (Za.perm _ permCl) (Zb.apn (Zcq om okm (Yfr ap nd) _ _ hml mo hy hn hA fun h7 le7 ap nd=>⟨_,_,Za.perm _ permCl.symm,?_⟩)));have hom9:apO om [] h7:=Y1 ap;have hbo7:h7 bo=noC:=(Ap.oent ap).1;have hb47:h7 b4=noC:=(Ap.oent ap).2.1
           clear ap nd)
        | (with_reducible show UX prog 270 _ _ _ _
           refine Zb.entr fun ap nd=>?_;refine Zb.fin (Zb.weaken (Za.perm _ permCl3) (Zb.apn (Zcq om okm (Yjq ap nd) _ _ hml mo hy hn hA fun h7 le7 ap nd=>⟨_,_,Za.perm _ permCl3.symm,?_⟩)));have hom9:apO om [] h7:=Y1 ap;have hb127:h7 b12=noC:=(Ap.oent ap).1;have hbo7:h7 bo=noC:=(Ap.oent ap).2.1;have hb47:h7 b4=noC:=(Ap.oent ap).2.2.1
           clear ap nd)
        | with_reducible refine xkp drop1 ?_
        | with_reducible refine xkp (drop1.trans (Za.forget le7)) ?_
        | with_reducible refine xkp ((Za.tail _ _ _).trans drop1) ?_
        | with_reducible refine xkp ((Za.tail _ _ _).trans (drop1.trans (Za.forget le7))) ?_
        | fail
      · exact⟨b12,h7,⟨le7,zb12,nb12.2.1,nb12.1,YH nb12.2.2,hb47,hbo7,hom9⟩,by simp [Ent,List.lookup],Za.refl _ _⟩
      · exact⟨b12,h7,⟨le7,hb127,nb12.2.1,nb12.1,YH nb12.2.2,hb47,hbo7,hom9⟩,by simp [Ent,List.lookup],Za.refl _ _⟩
    rintro⟨b12,h7⟩ ⟨le7,h12,n412,no12,nm12,hb47,hbo7,hom9⟩;simp only at le7 h12 n412 no12 nm12 hb47 hbo7 hom9 ⊢;have up:=GR (ks:=md.yes) mo;have un:=GR (ks:=md.no) mo;have mo7:Y7 h7 q:=fun x hx=>(mo6 x hx).up le7;have hmk7:Zw h7 qk:=hmk.up le7;refine xx ?_;refine Yeh p ok (Zea l md.yes) (Zea l md.no) (Zen l) ⟨up.1,by omega⟩ ⟨un.1,by omega⟩ ⟨by omega,hA⟩ ?_;have hql3:∀X:QM,(q.set k X).length=N:=fun X=>by rw[List.length_set];exact hql6
    cases hpb:Ygd p.quorum (Zea l md.yes) (Zea l md.no) (Zen l) with
    | false =>
      have e1:f md={ md with state:=4 }:=by rw[hf,Zec,if_pos ⟨s1,s2⟩,hpb];rfl
      have s4:=Zqd hkq 4;rw[← hqk,← hmd]at s4;refine xx ?_;refine⟨by omega,?_⟩;rw[s4];refine⟨⟨k+1,h7,q.set k (qk.1,qk.2.1,{ md with state:=4 })⟩,⟨by simp only;omega,le6.trans le7,by simp only;rw[Zdh,eq6,hcs,e1],Zip mo7 (by rw[hmd];exact Zir hmk7 (st:=4) (by decide) (hmk7.ok.n _ (by simp))),hb47,hom9,trivial,hbo7⟩,by simp only;omega,by simp [Ent,List.lookup],Za.tail _ _ _⟩
    | true =>
      have hmx:min ep (2147483647-p.enact)+p.enact=min (ep+p.enact) 2147483647:=by omega
      have e1:f md={ md with state:=2,due:=min (ep+p.enact) 2147483647 }:=by rw[hf,Zec,if_pos ⟨s1,s2⟩,hpb];rfl
      have s4:=Zqd hkq 2;rw[← hqk,← hmd]at s4;have hk2:k<(q.set k (qk.1,qk.2.1,{ md with state:=2 })).length:=by rw[List.length_set];exact hkq
      have s5:=Yqb hk2 (min (ep+p.enact) 2147483647);have eg:gr Yc (q.set k (qk.1,qk.2.1,{ md with state:=2 })) k=(qk.1,qk.2.1,{ md with state:=2 }):=by rw[Yl hk2,List.getElem_set_self]
      rw[eg,List.set_set]at s5;have mx1:max ep (-2147483647)=ep:=by omega
      have mx2:max p.enact 0=p.enact:=by omega
      simp -dsimp -implicitDefEqProofs (disch:=first|with_reducible assumption|omega) [go_sem,Y6,mx1,mx2];refine⟨by omega,?_⟩;rw[s4];simp -dsimp -implicitDefEqProofs (disch:=first|with_reducible assumption|omega) [go_sem,Y6,mx1,mx2,hmx];refine⟨by rw[hsum];omega,?_⟩;rw[s5];refine⟨⟨k+1,h7,q.set k (qk.1,qk.2.1,{ md with state:=2,due:=min (ep+p.enact) 2147483647 })⟩,⟨by simp only;omega,le6.trans le7,by simp only;rw[Zdh,eq6,hcs,e1],Zip mo7 (by rw[hmd];exact Zir hmk7 (st:=2) (by decide) (by omega)),hb47,hom9,trivial,hbo7⟩,by simp only;omega,by simp [Ent,List.lookup],Za.tail _ _ _⟩
  have hkN:k=N:=by omega
  subst hkN;rw[hN,Ynw]at eq6;rw[hN]at hql6;refine xx ?_;refine YE (e:=75) (sz:=33) (n:=ms.length) (o:=o) oko (by rw[Z3 Z9,hql6]) (by omega) hom8 fun h7 le7 sl=>ZP (ZO ?_);refine hk h7 _ q (le5.trans (le6.trans le7)) (by have:=Zh.pub (f:=Y2) (w:=33) (l:=q) (o:=o) Z9 (by rw[hql6];exact sl);rw[hql6,eo,← hN]at this;exact this) (by rw[eq6,hf];rfl) (fun x hx=>(mo6 x hx).up le7)
theorem Zss {bb:Nat}{s:Zf}{v:SV}{r:Zk}{q:RV}{w:Int}{m:Zm}(y n:Value)(mo:List Zm)(dn:List Int)(hp:Ints h .u64 v.p s.purses)(hl:s.purses.length≤1000)(hto:0≤m.to∧m.to<s.purses.length)(ha:0≤m.amt∧m.amt≤18446744073709551615)(htr:0≤s.treas∧s.treas≤4611686018427387904)(hs:at0 s.purses m.to.toNat+s.treas≤4611686018427387904)
  (hk:∀h' pv,PH.le h h'→Ints h' .u64 pv (Vb m ⟨s.par,s.treas,s.purses,s.emer,mo,dn⟩).ps→K (.bool (moB m s.treas)) (tB bb { s with par:=(Vb m ⟨s.par,s.treas,s.purses,s.emer,mo,dn⟩).par,treas:=(Vb m ⟨s.par,s.treas,s.purses,s.emer,mo,dn⟩).tr,purses:=(Vb m ⟨s.par,s.treas,s.purses,s.emer,mo,dn⟩).ps,emer:=(Vb m ⟨s.par,s.treas,s.purses,s.emer,mo,dn⟩).em } { v with p:=pv } r q w::L) h') :
  Zb prog 161 [.pointer (some ⟨bb,0,none⟩),motV m y n] (tB bb s v r q w::L) h K:=by
 refine Z4 func161 rfl (rs:=[_]) rfl rfl ZY (by kernel_rfl) rfl rfl fun ap nd=>?_;have hbb:h bb=noC:=ap.1;clear ap nd;refine xx ?_;refine Z6 fun b3 nb3 zb3=>?_;(try simp only[ZU]at nb3);have n3:=nb3.1;clear nb3;refine xx ?_;by_cases w3:m.what=3
 ·have e1:Vb m ⟨s.par,s.treas,s.purses,s.emer,mo,dn⟩=⟨s.par,s.treas,s.purses,true,mo,dn⟩:=by rw[Vb,if_pos w3]
  have e2:moB m s.treas=true:=by simp [moB,w3]
  rw[e1,e2]at hk;have hk:=hk h v.p (PH.le_refl _) hp;simp -dsimp -implicitDefEqProofs (disch:=first|with_reducible assumption|omega) [go_sem,w3];exact ZP (ZO hk)
 by_cases w4:m.what=4
 ·have e1:Vb m ⟨s.par,s.treas,s.purses,s.emer,mo,dn⟩=⟨s.par,s.treas,s.purses,false,mo,dn⟩:=by rw[Vb,if_neg w3,if_pos w4]
  have e2:moB m s.treas=true:=by simp [moB,w4]
  rw[e1,e2]at hk;have hk:=hk h v.p (PH.le_refl _) hp;simp -dsimp -implicitDefEqProofs (disch:=first|with_reducible assumption|omega) [go_sem,w4];exact ZP (ZO hk)
 by_cases w1:m.what=1
 ·have e1:Vb m ⟨s.par,s.treas,s.purses,s.emer,mo,dn⟩=⟨m.par,s.treas,s.purses,s.emer,mo,dn⟩:=by rw[Vb,if_neg w3,if_neg w4,if_pos w1]
  have e2:moB m s.treas=true:=by simp [moB,w1]
  rw[e1,e2]at hk;have hk:=hk h v.p (PH.le_refl _) hp;simp -dsimp -implicitDefEqProofs (disch:=first|with_reducible assumption|omega) [go_sem,w1];exact ZP (ZO hk)
 by_cases w2:m.what=2
 ·by_cases c:m.amt≤s.treas
  ·have e1:Vb m ⟨s.par,s.treas,s.purses,s.emer,mo,dn⟩=⟨s.par,s.treas-m.amt,s.purses.set m.to.toNat (at0 s.purses m.to.toNat+m.amt),s.emer,mo,dn⟩:=by rw[Vb,if_neg w3,if_neg w4,if_neg w1,if_pos ⟨w2,c⟩]
   have e2:moB m s.treas=true:=by simp [moB,c]
   rw[e1,e2]at hk;simp only at hk;simp -dsimp -implicitDefEqProofs (disch:=first|with_reducible assumption|omega) [go_sem,w2];refine Yr (.tk 0 (.tk 1 (.tk 2 (.tk 3 (.tk 5 (.tkl 4 (.tkl 6 (.tk 7 (.fin))))))))) (by kernel_rfl) (by kernel_rfl) _ (Za.refl _ _) ?_;refine xx ?_;refine Yr (.tk 0 (.tk 1 (.tk 2 (.tk 3 (.tk 5 (.tkl 4 (.tkl 6 (.tk 7 (.tk 8 (.tk 9 (.tk 10 (.o2 11 (.fin) (.nil))))))))))))) (by kernel_rfl) (by kernel_rfl) _ (Za.refl _ _) ?_;refine xx ?_;refine Zb.fin (Zb.weaken (Za.perm _ (List.Perm.swap _ _ _)) (U4 (s:={ s with treas:=s.treas-m.amt }) hp hl m.to hto m.amt ha.1 (by show at0 s.purses m.to.toNat+m.amt≤_;omega) fun h1 pv le1 i1=>⟨_,_,Za.perm _ (List.Perm.swap _ _ _),?_⟩));have hk:=hk h1 pv le1 i1;refine xx ?_;exact ZP (ZO hk)
  ·have e1:Vb m ⟨s.par,s.treas,s.purses,s.emer,mo,dn⟩=⟨s.par,s.treas,s.purses,s.emer,mo,dn⟩:=by rw[Vb,if_neg w3,if_neg w4,if_neg w1,if_neg (fun x=>c x.2)]
   have e2:moB m s.treas=false:=by simp [moB,w2,c]
   rw[e1,e2]at hk;have hk:=hk h v.p (PH.le_refl _) hp;simp -dsimp -implicitDefEqProofs (disch:=first|with_reducible assumption|omega) [go_sem,w2];refine Yr (.tk 0 (.tk 1 (.tk 2 (.tk 3 (.tk 5 (.tkl 4 (.tkl 6 (.tk 7 (.fin))))))))) (by kernel_rfl) (by kernel_rfl) _ (Za.refl _ _) ?_;refine xx ?_;exact ZP (ZO hk)
 ·have e1:Vb m ⟨s.par,s.treas,s.purses,s.emer,mo,dn⟩=⟨s.par,s.treas,s.purses,s.emer,mo,dn⟩:=by rw[Vb,if_neg w3,if_neg w4,if_neg w1,if_neg (fun x=>w2 x.1)]
  have e2:moB m s.treas=true:=by simp [moB,w2]
  rw[e1,e2]at hk;have hk:=hk h v.p (PH.le_refl _) hp;refine xx ?_;exact ZP (ZO hk)
theorem Zok {p:Ze}(h:Ym p=true):0≤p.enact∧p.enact≤1000000:=by
 simp only[Ym,Bool.and_eq_true]at h;have h2:=h.1.2;simp only[Y9,List.all_cons,List.all_nil,id,Bool.and_eq_true,wi_iff,decide_eq_true_eq,and_true]at h2;omega
theorem Zzg {n:Nat}{m:Zm}(h:ZI n m):m.yes.length≤1000∧m.no.length≤1000:=by
 obtain⟨f1,f2,f3,f4,f5⟩:=motFits_iff.1 h.f;simp only[UT,Bool.and_eq_true,decide_eq_true_eq]at f3 f4;have e:G9 128=16:=by decide
 omega
structure MoG where
 k:Nat
 h:PH
 p:Value
 t:Value
 q:List QM
 od:Option (Nat×Nat)
theorem Ztx {bb D:Nat}{om od:Option (Nat×Nat)}{s:Zf}{v:SV}{r:Zk}{q:RV}{w:Int}(ti:Zt s D)(hA:Gg s≤18446744073709551615)(hdl:r.done.length≤700)(hp:Ints h .u64 v.p s.purses)(ht:∃ql:List QM,Zh Y2 33 h v.t ql∧ql.map (fun x=>x.2.2)=s.motions∧Y7 h ql)
  (hm:v.m=ovs om s.members.length) (okm:okO om s.members.length) (hd:q.d=ovs od r.done.length) (okd:okO od r.done.length)
  (hk:∀h' pv tv od',PH.le h h'→Ints h' .u64 pv (moS s r).purses→(∃ql:List QM,Zh Y2 33 h' tv ql∧ql.map (fun x=>x.2.2)=(moS s r).motions∧Y7 h' ql)→okO od' (moR s r).done.length →
   K (.tuple #[]) (tB bb (moS s r) { v with p:=pv,t:=tv } (moR s r) { q with d:=ovs od' (moR s r).done.length } w::tMo om s.members (oent 3 1 od' ((moR s r).done.map (.int .i64)) L)) h') :
  Zb prog 77 [.pointer (some ⟨bb,0,none⟩)] (tB bb s v r q w::tMo om s.members (oent 3 1 od (r.done.map (.int .i64)) L)) h K:=by
 obtain⟨vp,vm,ve,vx,vo,vd,vt,vk,vr⟩:=v;obtain⟨qo,ql,qs,qd⟩:=q;simp only at hm hp ht hd hk ⊢;subst hm;subst hd;obtain⟨qs0,t1,t2,t3⟩:=ht;have hq0:qs0.length=s.motions.length:=by rw[← t2,List.length_map]
 have hep:=ti.ep;have hml:=ti.ml;have hpl:=ti.pl;have hmn:=ti.mn;have hsum:=ti.sum;obtain⟨p1,p2,p3,p4,p5,p6⟩:=ti.parts;have hen:=Zok ti.r;have hmm:∀m∈s.motions,m.yes.length≤1000∧m.no.length≤1000:=fun m hm=>Zzg (ti.mm m hm);have hmr:=ti.mm;refine Z4 func77 rfl (rs:=[]) rfl rfl ZY (by kernel_rfl) rfl rfl fun ap nd=>?_;have hbb:h bb=noC:=ap.1;clear ap nd;refine xx ?_;refine Yr (.tk 0 (.tk 1 (.tk 2 (.tk 3 (.tk 4 (.tk 6 (.tk 7 (.tk 8 (.tk 9 (.tk 11 (.tk 12 (.tk 13 (.tk 14 (.tk 16 (.tk 17 (.tk 18 (.tk 19 (.tkl 5 (.tkl 10 (.tkl 15 (.tkl 20 (.o1 21 (.tk 22 (.tk 23 (.tk 24 (.o2 25 (.fin) (.nil))))) (.nil))))))))))))))))))))))) (by kernel_rfl) (by kernel_rfl) [_] drop1 ?_;refine xx ?_;refine Zb.apn (Zb.fin (Zb.weaken (Za.perm _ oent_perm) (Zva s.par ti.ok.p hen s.ep (by omega) _ t1 t2 t3 (by omega) hmm okm (by omega) ti.be.m hA fun h1 tv q1 le1 i1 e1 m1=>⟨_,_,Za.perm _ oent_perm.symm,fun ap nd=>?_⟩)));have hbb1:h1 bb=noC:=ap.1;clear ap nd;obtain⟨ta,tc,rfl,_⟩:=i1.open
 first
 | refine xkp (drop1.trans (Za.forget le1)) ?_
 | refine xkp (Za.forget le1) ?_
 | skip
 refine xx ?_;have eL:Zza s.par s.members s.ep s.motions=moL s:=rfl;rw[eL]at e1;have hmL:(moL s).length=s.motions.length:=List.length_map _;have hq1:q1.length=(moL s).length:=by rw[← e1,List.length_map]
 refine Yr (.tk 0 (.tk 1 (.tk 2 (.tk 3 (.tk 5 (.tk 6 (.tk 7 (.tk 8 (.tk 10 (.tk 11 (.tk 12 (.tk 13 (.tk 17 (.tkl 4 (.tkl 9 (.tkl 14 (.o1 15 (.tk 16 (.fin)) (.nil)))))))))))))))))) (by kernel_rfl) (by kernel_rfl) [_] drop1 ?_;refine xx ?_;refine Zb.ap (Zzt _ i1 e1 m1 (by omega) s.ep r.quo fun h2 wv le2 iw ap=>?_);have hbb2:h2 bb=noC:=ap.1;clear ap;have eW:VI (moL s) s.ep r.quo (moL s).length=moW s r:=rfl;rw[eW]at iw;obtain⟨W,hW⟩:∃W,W=moW s r:=⟨_,rfl⟩
 have hWin:=(Zrx (s:=s) r).2;have hX:=fun k (hk:k≤(moW s r).length)=>mo_k ti r hk;have eS:moS s r=Yul s r (moW s r).length:=rfl;have eR:moR s r=moRk s r (moW s r).length:=rfl;rw[eS,eR]at hk;rw[← hW]at iw hWin hX hk;have hWl:W.length≤(moL s).length:=by rw[hW];exact Zko _ _ _ _
 obtain⟨wa,wc,rfl,_,_,_,hws⟩:=iw.open;obtain⟨N,hN⟩:∃N,N=W.length:=⟨_,rfl⟩
 rw[← hN]at hws hk hX ⊢
 first
 | refine xkp (drop1.trans (Za.forget le2)) ?_
 | refine xkp (Za.forget le2) ?_
 | skip
 refine xx ?_;have e0:moX s r 0=⟨s.par,s.treas,s.purses,s.emer,moL s,r.done⟩:=rfl;refine YZ (γ:=MoG) ⟨0,h2,vp,.slice ta q1.length tc,q1,od⟩ (fun y=>y.k≤N∧PH.le h2 y.h∧Ints y.h .u64 y.p (moX s r y.k).ps∧Zh Y2 33 y.h y.t y.q∧y.q.map (fun x=>x.2.2)=(moX s r y.k).mo∧Y7 y.h y.q∧okO y.od (moX s r y.k).dn.length∧y.h bb=noC)
  (fun y=>[(49,.int .i64 y.k),(48,.int .i64 N),(47,.slice wa N wc),(0,.pointer (some ⟨bb,0,none⟩))])
  (fun y=>tB bb { s with par:=(moX s r y.k).par,treas:=(moX s r y.k).tr,purses:=(moX s r y.k).ps,emer:=(moX s r y.k).em,motions:=(moX s r y.k).mo } ⟨y.p,ovs om s.members.length,ve,vx,vo,vd,y.t,vk,vr⟩ { r with done:=(moX s r y.k).dn } ⟨qo,ql,qs,ovs y.od (moX s r y.k).dn.length⟩ w::oent 3 1 y.od ((moX s r y.k).dn.map (.int .i64)) (tMo om s.members L)) (fun y=>y.h) (fun y=>N-y.k) ?_ ?_ ?_ ?_
 ·exact⟨Nat.zero_le _,PH.le_refl _,hp.up (le1.trans le2),i1.up le2,e1,fun x hx=>(m1 x hx).up le2,okd,hbb2⟩
 ·simp [Ent,List.lookup,WM]
 ·exact Za.perm _ (List.Perm.cons _ (YL om od _ _ _))
 rintro⟨k,h3,pv,tv,q3,od3⟩ ⟨k1,le3,i3,j3,e3,m3,okd3,hbb3⟩;simp only at k1 le3 i3 j3 e3 m3 okd3 hbb3 ⊢;have hx:=hX k k1;obtain⟨X,hXX⟩:∃X,X=moX s r k:=⟨_,rfl⟩
 by_cases c1:k<N
 ·have hz:=hWin (at0 W k) (by rw[← Yx (by omega)];exact List.getElem_mem _);have hst:=hx.s k (Nat.le_refl _) (by omega);obtain⟨i,hi⟩:=Int.eq_ofNat_of_zero_le hz.1;rw[hi]at hz hst;rw[Int.toNat_natCast]at hst;have hws3:∀j,j<N→Yo h3 wa j=some (.int .i64 (at0 W j)):=fun j hj=>Ve (le3) (hws j hj);have eK:moX s r (k+1)=Zjf i (moX s r k):=by
   show moK (moW s r) _ (k+1)=_;rw[moK,← hW,hi,Int.toNat_natCast,hW];rfl
  rw[← hXX]at i3 e3 okd3 hx hst eK ⊢;have hxn:X.mo.length=(moL s).length:=hx.n;have hxl:X.ps.length=s.purses.length:=hx.l2;have hq3:q3.length=X.mo.length:=by rw[← e3,List.length_map]
  have hi3:i<q3.length:=by omega
  obtain⟨qk,hqk⟩:∃qk,qk=gr Yc q3 i:=⟨_,rfl⟩
  have egr:qk.2.2=gr Yj X.mo i:=by rw[hqk];exact Znm e3 (by omega)
  obtain⟨m,hm⟩:∃m,m=qk.2.2:=⟨_,rfl⟩
  have hmo:ZI s.purses.length m:=by rw[hm,egr];exact hx.m _ (YM (by omega))
  have hma:=hmo.ok.a;have hmt:=hmo.t;have hxt:tot X.ps+X.tr=tot s.purses+s.treas:=hx.t;have hpx:=YC hx.p m.to.toNat;have hp0:=hx.p m.to.toNat;have htx:=Yy hx.p;have htr:=hx.tr;have j30:=j3;obtain⟨ma,mc,rfl,_,_,_,hms⟩:=j3.open;simp -dsimp -implicitDefEqProofs (disch:=first|with_reducible assumption|omega) [go_sem,idx hws3];rw[hi];simp -dsimp -implicitDefEqProofs (disch:=first|with_reducible assumption|omega) [go_sem,↓Zam Yc (by decide) hms,Y2];rw[← hqk,← hm];have hpt:at0 X.ps m.to.toNat+X.tr≤4611686018427387904:=by omega
  refine Zb.ap (Zss (s:={ s with par:=X.par,treas:=X.tr,purses:=X.ps,emer:=X.em,motions:=X.mo }) (m:=m) _ _ X.mo X.dn i3 (by show X.ps.length≤1000;omega) (by show 0≤m.to∧m.to<(X.ps.length:Int);omega) hma ⟨htr,by show X.tr≤_;omega⟩ hpt fun h4 pv4 le4 i4 ap=>?_);have hbb4:h4 bb=noC:=ap.1;clear ap;obtain⟨Y,hY⟩:∃Y,Y=Vb m X:=⟨_,rfl⟩
  have eY:Vb m ⟨X.par,X.tr,X.ps,X.em,X.mo,X.dn⟩=Y:=by rw[hY]
  obtain⟨B,hB⟩:∃B,B=moB m X.tr:=⟨_,rfl⟩
  simp only at eY i4 ⊢;rw[eY]at i4 ⊢;rw[← hB];refine xx ?_;have hfi:Yes X.mo i B=(X.mo.set i (Zwh m B),0):=by
   rw[Yes,if_pos (by omega),Int.toNat_natCast,if_pos hst,hm,egr]
  have eK2:moX s r (k+1)={ Y with mo:=X.mo.set i (Zwh m B),dn:=if B then X.dn++[(i:Int)] else X.dn }:=by
   rw[eK,Zjf,← egr,← hm,← hB,← hY]
  refine Zb.ap (Zoa _ (j30.up le4) e3 (fun x hx=>(m3 x hx).up le4) (by omega) (fun m hm=>Zzg (hx.m m hm)) i (by omega) B fun h5 tv5 q5 le5 j5 e5 m5 ap=>?_);have hbb5:h5 bb=noC:=ap.1;clear ap;rw[hfi]at e5 ⊢;simp only at e5 ⊢;obtain⟨ma5,mc5,rfl,_⟩:=j5.open;have hdx:X.dn.length≤r.done.length+k:=hx.d
  cases B with
  | false =>
   simp only[Bool.false_eq_true,if_false]at eK2;refine xx ?_;refine⟨⟨k+1,h5,pv4,.slice ma5 q5.length mc5,q5,od3⟩,⟨by simp only;omega,le3.trans (le4.trans le5),by rw[eK2];exact i4.up le5,j5,by rw[eK2];exact e5,m5,by rw[eK2];exact okd3,hbb5⟩,by simp only;omega,by simp [Ent,List.lookup],?_⟩;simp only;rw[eK2];exact Za.refl _ _
  | true =>
   simp only[if_true]at eK2;refine xx ?_;refine Z6 fun b99 nb99 zb99=>?_;(try simp only[ZU]at nb99);have n99:bb≠b99:=nb99.1;clear nb99;refine xx ?_;refine Z8 (t:=32) (e:=3) (sz:=1) (bytes:=8) (z:=[.int .i64 0]) (by kernel_rfl) Zem rfl rfl rfl rfl (by decide) [_,_] _ od3 X.dn.length (X.dn.map (.int .i64)) okd3 (by simp) (Src.own (b:=b99) (t:=3) (cap:=1) List.mem_cons_self) (m:=1) (news:=[.int .i64 i]) rfl (fun u hu=>by simp at hu;subst hu;rfl) (by simp [maxLen];omega) (by omega) ?_;intro od4 j1 j2 j3;simp only[List.cons_append,List.nil_append];refine xx ?_;refine⟨⟨k+1,h5,pv4,.slice ma5 q5.length mc5,q5,od4⟩,⟨by simp only;omega,le3.trans (le4.trans le5),by rw[eK2];exact i4.up le5,j5,by rw[eK2];exact e5,m5,by rw[eK2];simpa using j1,hbb5⟩,by simp only;omega,by simp [Ent,List.lookup],?_⟩;simp only;rw[eK2];simp only[List.map_append,List.map_cons,List.map_nil,List.length_append,List.length_singleton];exact Za.tail _ _ _
 obtain rfl:N=k:=by omega
 have hxN:(moX s r N).mo.length=(moL s).length:=hx.n;have hk:=hk h3 pv tv od3 (le1.trans (le2.trans le3)) i3 ⟨q3,j3,e3,m3⟩ okd3;have e1':Yul s r N={ s with par:=(moX s r N).par,treas:=(moX s r N).tr,purses:=(moX s r N).ps,emer:=(moX s r N).em,motions:=(moX s r N).mo }:=rfl;have e2':moRk s r N={ r with done:=(moX s r N).dn }:=rfl;rw[e1',e2']at hk;rw[← hXX]at hk ⊢;simp only at hk;refine xx ?_;exact⟨_,_,Za.perm _ (List.Perm.cons _ (YL od3 om _ _ _)),hk⟩
structure AjG where
 k:Nat
 h:PH
 p:Value
theorem Zpo {bb D:Nat}{om oo ox:Option (Nat×Nat)}{s:Zf}{v:SV}{r:Zk}{q:RV}{w:Int}(ti:Zt s D)(hD:D≤30000)(hp:Ints h .u64 v.p s.purses)(hd:Zh YT 3 h v.d s.dues)(hm:v.m=ovs om s.members.length)(okm:okO om s.members.length)(hw:0≤w∧w≤1000)
    (hx:v.x=ovs ox s.exit.length) (okx:okO ox s.exit.length) (ho:q.o=ovs oo r.out.length) (oko:okO oo r.out.length) (hol:r.out.length≤700)
    (hk:∀h' pv d' oo',PH.le h h'→Ints h' .u64 pv (ajS s).purses→Zh YT 3 h' d' (ejS (ajS s) (min (s.ep+w) 2147483647) (ajS s).members.length).dues→okO oo' (ejR (ajS s) r (ajS s).members.length).out.length→K (.tuple #[]) (tB bb (ejS (ajS s) (min (s.ep+w) 2147483647) (ajS s).members.length) { v with p:=pv,d:=d',x:=ovs ox (ejS (ajS s) (min (s.ep+w) 2147483647) (ajS s).members.length).exit.length } (ejR (ajS s) r (ajS s).members.length) { q with o:=ovs oo' (ejR (ajS s) r (ajS s).members.length).out.length } w::tMo om (ejS (ajS s) (min (s.ep+w) 2147483647) (ajS s).members.length).members (oent 3 1 oo' ((ejR (ajS s) r (ajS s).members.length).out.map (.int .i64)) (oent 3 1 ox ((ejS (ajS s) (min (s.ep+w) 2147483647) (ajS s).members.length).exit.map (.int .i64)) L))) h') :
    Zb prog 78 [.pointer (some ⟨bb,0,none⟩)] (tB bb s v r q w::tMo om s.members (oent 3 1 oo (r.out.map (.int .i64)) (oent 3 1 ox (s.exit.map (.int .i64)) L))) h K:=by
  obtain⟨vp,vm,ve,vx,vo,vd,vt,vk,vr⟩:=v;simp only at hm hp hd hx hk ⊢;subst hm;have hep:=ti.ep;have hml:=ti.ml;have hpl:=ti.pl;have hcap:=ti.ok.p.w s.par.cap (by simp [Yw]);obtain⟨b1,b2,b3,b4,b5,b6⟩:=ti.parts;have hsum:=ti.sum;obtain⟨N,hN⟩:∃N,N=s.members.length:=⟨_,rfl⟩
  have hbe:ZK s.members s.purses:=ti.be.ok (by omega);refine Z4 func78 rfl (rs:=[]) rfl rfl ZY (by kernel_rfl) rfl rfl fun ap nd=>?_;have hbb:h bb=noC:=ap.1;have hbm:apO om [] h:=Y1 ap.2;have nmb:apB om bb:=YH nd.1;clear ap nd;obtain⟨ea,ec,em,_⟩:=Yh okm;rw[← hN]at em okm hk ⊢;rw[em];refine xx ?_;rw[← em];refine YZ (γ:=AjG) ⟨0,h,vp⟩ (fun y=>y.k≤N∧PH.le h y.h∧Ints y.h .u64 y.p (clN s.par (s.members,s.purses) y.k).2∧y.h bb=noC∧apO om [] y.h)
    (fun y=>[(12,.int .i64 y.k),(11,.int .i64 N),(0,.pointer (some ⟨bb,0,none⟩))])
    (fun y=>tB bb { s with members:=(clN s.par (s.members,s.purses) y.k).1,purses:=(clN s.par (s.members,s.purses) y.k).2 } ⟨y.p,ovs om N,ve,vx,vo,vd,vt,vk,vr⟩ r q w::tMo om (clN s.par (s.members,s.purses) y.k).1 (oent 3 1 oo (r.out.map (.int .i64)) (oent 3 1 ox (s.exit.map (.int .i64)) L))) (fun y=>y.h) (fun y=>N-y.k) ?_ ?_ ?_ ?_
  · exact⟨Nat.zero_le _,PH.le_refl _,hp,hbb,hbm⟩
  · simp [Ent,List.lookup,WM]
  · exact Za.refl _ _
  rintro⟨k,h1,pv⟩ ⟨k1,le1,i1,hbb1,hbm1⟩;simp only at k1 le1 i1 hbb1 hbm1 ⊢;have hx1:=Zrp (q:=s.par) ti.ok.p (x:=(s.members,s.purses)) hbe k (by show k≤s.members.length;omega);obtain⟨hl1,hl2⟩:=UZ s.par (s.members,s.purses) k;simp only at hl1 hl2;by_cases c1:k<N
  · have eK:clN s.par (s.members,s.purses) (k+1)=Jl s.par (clN s.par (s.members,s.purses) k) k:=rfl;obtain⟨X,hX⟩:∃X,X=clN s.par (s.members,s.purses) k:=⟨_,rfl⟩
    rw[← hX]at i1 hx1 hl1 hl2 eK ⊢;obtain⟨MS,PS⟩:=X;simp only at i1 hx1 hl1 hl2 ⊢;obtain⟨bm,cm,rfl⟩:∃bm cm,om=some (bm,cm):=by
      cases om with
      | none=>have:N=0:=okm;omega
      | some p=>exact⟨_,_,rfl⟩
    have hbm1':h1 bm=noC:=hbm1.2;have nmb':bm≠bb:=nmb;have hkl:k<MS.length:=by omega
    obtain⟨m,hmk⟩:∃m,m=gr ZS MS k:=⟨_,rfl⟩
    have hmo:Zg m:=by rw[hmk];exact hx1.m _ (YM hkl)
    have how:0≤m.owner∧m.owner<(PS.length:Int):=by rw[hmk];exact hx1.o _ (YM hkl)
    have ub:=hmo.u m.bal (by simp);have hroom:=Yne ti.ok.p (x:=(MS,PS)) hx1 hkl;simp only at hroom;rw[← hmk]at hroom;have eK2:clN s.par (s.members,s.purses) (k+1)=(MS.set k (UO s.par m),PS.set m.owner.toNat (at0 PS m.owner.toNat+(m.bal-min m.bal s.par.cap))):=by rw[eK,Jl,← hmk]
    have hg:=Zuh hkl;rw[← hmk]at hg;obtain⟨g0,g1,g2,g3,g4,g5⟩:=hg;have hi6:=Wv (w:=6) hkl (show 5<6 by decide);have hsm:=Yea (ms:=MS) rfl;simp only[tMo,Yg,YX];refine xx ?_;refine Wr (.tk 0 (.tk 1 (.tk 2 (.tk 3 (.tk 5 (.tk 6 (.tk 7 (.tk 8 (.tkl 4 (.tkl 9 (.o1 10 (.tk 11 (.tk 12 (.tk 13 (.tk 14 (.tk 15 (.fin)))))) (.nil)))))))))))) (by kernel_rfl) (by kernel_rfl) [(0,.pointer (some ⟨bb,0,none⟩)),(3,.pointer (some ⟨bm,k*6,none⟩)),(12,.int .i64 k),(11,.int .i64 N)] [_,_] (γ:=Unit) (fun _=>True)
      (fun _=>[(0,.pointer (some ⟨bb,0,none⟩)),(3,.pointer (some ⟨bm,k*6,none⟩)),(12,.int .i64 k),(11,.int .i64 N),(4,.int .u64 (min m.bal s.par.cap)),(5,.int .u64 (m.bal-min m.bal s.par.cap))])
      (fun _=>tB bb { s with members:=MS,purses:=PS } ⟨pv,.slice (some ⟨bm,0,none⟩) N cm,ve,vx,vo,vd,vt,vk,vr⟩ r q w::tM bm cm MS::oent 3 1 oo (r.out.map (.int .i64)) (oent 3 1 ox (s.exit.map (.int .i64)) L)) (fun _=>h1) (by simp [Ent,List.lookup]) Zkx ?_ ?_
    · repeat' first
        | with_reducible refine YF ?_ ?_
        | simp -dsimp -implicitDefEqProofs (disch:=first|with_reducible assumption|omega) [go_sem,g0,g1,g2,g3,g4,g5]
        | (with_reducible show UX prog 163 _ _ _ _
           refine Zts s.par ti.ok.p ti.r m.bal ub ?_)
        | with_reducible refine xkp (Za.refl _ _) ?_
        | with_reducible refine xkp Zkx ?_
        | fail
      all_goals exact⟨by simp [Ent,List.lookup],Za.refl _ _⟩
    rintro _ _
    try simp only
    refine xx ?_;refine⟨by omega,?_⟩;obtain⟨m1,hm1⟩:∃m1:Zc,m1={ m with bal:=min m.bal s.par.cap }:=⟨_,rfl⟩
    have hset1:(MS.flatMap YK).set (k*6) (.int .u64 (min m.bal s.par.cap))=(MS.set k m1).flatMap YK:=Wm (m:=0) Yb ZS MS hkl (by decide) (by rw[← hmk,hm1];rfl);rw[hset1];have hkl2:k<(MS.set k m1).length:=by rw[List.length_set];exact hkl
    have hg1:gr ZS (MS.set k m1) k=m1:=by rw[Yl hkl2,List.getElem_set_self]
    have hg:=Zuh hkl2;rw[hg1]at hg;obtain⟨f0,f1,f2,f3,f4,f5⟩:=hg;have em1:m1.owner=m.owner:=by rw[hm1]
    rw[em1]at f4;have hsm2:=Yea (ms:=MS.set k m1) (n:=MS.length) (by rw[List.length_set]);simp -dsimp -implicitDefEqProofs (disch:=first|with_reducible assumption|omega) [go_sem,f0,f1,f2,f3,f4,f5];refine Zb.ap (U4 (s:={ s with members:=MS.set k m1,purses:=PS }) (v:=⟨pv,.slice (some ⟨bm,0,none⟩) N cm,ve,vx,vo,vd,vt,vk,vr⟩) i1 (by show PS.length≤1000;omega) m.owner how _ (by omega) hroom fun h2 pv2 le2 i2 ap=>?_);have hbb2:h2 bb=noC:=ap.1;have hbm2:h2 bm=noC:=ap.2.1;clear ap;simp only at i2 ⊢;refine xx ?_;refine Yr (.tk 0 (.tk 1 (.tk 2 (.tk 3 (.tk 4 (.tk 6 (.tk 7 (.tk 8 (.tkl 5 (.tkl 9 (.o1 10 (.tk 11 (.tk 12 (.o2 13 (.fin) (.nil)))) (.nil)))))))))))) (by kernel_rfl) (by kernel_rfl) _ (Za.refl _ _) ?_;simp -dsimp -implicitDefEqProofs (disch:=first|with_reducible assumption|omega) [go_sem,f0,f1,f2,f3,f4,f5];refine Zjs s.par ti.ok.p m1 ?_;rw[ti.r,if_pos rfl];have eC:Zba s.par m1=UO s.par m:=by rw[hm1];rfl
    rw[eC]
    first
    | refine xkp (Za.refl _ _) ?_
    | skip
    refine xx ?_;have hsm3:(((MS.map fun a=>(YK a).length)).set k (YK m1).length).sum=MS.length*6:=by
      rwa [List.map_set]at hsm2
    refine⟨by omega,?_⟩;have hst:=Zsl hkl2 (UO s.par m) (by rw[hg1,hm1];rfl) (by rw[hg1,hm1];rfl);rw[List.set_set]at hst;rw[hst];refine⟨⟨k+1,h2,pv2⟩,⟨by simp only;omega,le1.trans le2,by rw[eK2];exact i2,hbb2,trivial,hbm2⟩,by simp only;omega,by simp [Ent,List.lookup],?_⟩;simp only;rw[eK2];exact Za.refl _ _
  obtain rfl:N=k:=by omega
  have eA:ajS s={ s with members:=(clN s.par (s.members,s.purses) N).1,purses:=(clN s.par (s.members,s.purses) N).2 }:=by rw[hN];rfl
  have ti2:=Zyv ti (Nat.le_refl s.members.length);have eA2:Yet s s.members.length=ajS s:=rfl;rw[eA2]at ti2;have eL1:(ajS s).members.length=N:=by rw[eA];show (clN s.par (s.members,s.purses) N).1.length=N;omega
  have eX:(ajS s).exit=s.exit:=rfl;obtain⟨A,hA⟩:∃A,A=ajS s:=⟨_,rfl⟩
  rw[← hA]at eA ti2 eL1 eX hk;have eP:(clN s.par (s.members,s.purses) N).2=A.purses:=by rw[eA]
  have eM:(clN s.par (s.members,s.purses) N).1=A.members:=by rw[eA]
  rw[← eA,eM,← eX];rw[eP]at i1;have eE:A.ep=s.ep:=by rw[eA]
  refine xx ?_;refine Zgv (s:=A) (v:=⟨pv,ovs om N,ve,vx,vo,vd,vt,vk,vr⟩) (om:=om) (oo:=oo) (ox:=ox) ti2 hD (by rw[eA];exact hd.up le1) (by rw[eL1]) (by rw[eL1];exact okm) hw (by rw[eX];exact hx) (by rw[eX];exact okx) ho oko hol fun h2 d2 o2 le2 i2 ok2=>?_;rw[eE]at i2 ⊢;have hk:=hk h2 pv d2 o2 (le1.trans le2) (i1.up le2) i2 ok2;refine xx ?_;exact ZO hk
def Yqx (s:Zf):Zf:={ s with members:=[],entry:=[],exit:=[] }
abbrev Yab (u:SV)(m e x:Value):SV:=⟨u.p,m,e,x,u.o,u.d,u.t,u.k,u.r⟩
theorem Zvl {e sz e2 sz2 e3 sz3:Nat}{o o2 o3:Option (Nat×Nat)}{xs ys zs:List Value}{x y:Zo}{L:Own}{h:PH}:Za (oent e sz o xs (oent e2 sz2 o2 ys (oent e3 sz3 o3 zs (x::y::L)))) h (oent e sz o xs (oent e2 sz2 o2 ys (oent e3 sz3 o3 zs L))) h:=by
 have p1:(x::y::oent e sz o xs (oent e2 sz2 o2 ys (oent e3 sz3 o3 zs L))).Perm (oent e sz o xs (x::y::oent e2 sz2 o2 ys (oent e3 sz3 o3 zs L))):=Yv [x,y];have p2:=Yf (e:=e) (sz:=sz) o xs (Yv (e:=e2) (sz:=sz2) (o:=o2) (xs:=ys) [x,y] (L:=oent e3 sz3 o3 zs L));have p3:=Yf (e:=e) (sz:=sz) o xs (Yf (e:=e2) (sz:=sz2) o2 ys (Yv (e:=e3) (sz:=sz3) (o:=o3) (xs:=zs) [x,y] (L:=L)));exact(Za.perm h ((p1.trans p2).trans p3).symm).trans ((Za.tail _ _ _).trans (Za.tail _ _ _))
theorem Zvm {s:Zf}(v:SV)(hs:Zs h v s)(few:Zu s)
    (hk:∀(h':PH) (u:SV) (o oe ox:Option (Nat×Nat)),PH.le h h'→okO o s.members.length→okO oe s.entry.length→okO ox s.exit.length→Zs h' (Yab u (.slice none 0 0) (.slice none 0 0) (.slice none 0 0)) (Yqx s)→K (stV s (Yab u (ovs o s.members.length) (ovs oe s.entry.length) (ovs ox s.exit.length))) (oent 3 1 ox (s.exit.map (.int .i64)) (oent 3 1 oe (s.entry.map (.int .i64)) (oent 73 6 o (s.members.flatMap YK) L))) h'):Zb prog 18 [stV s v] L h K:=by
  obtain⟨pa,pc,ma,mc,ea,ec,xa,xc,oa,oc,da,dc,ta,tc,ka,kc,ra,rc,rfl⟩:=hs.slices;have fm:=few.m;have fp:=few.p;have fe:=few.e;have fx:=few.x;have fo:=few.o;have fd:=few.d;have ft:=few.t;have fk:=few.k;have fr:=few.r;obtain⟨ql,q1,q2,q3⟩:=hs.t;obtain⟨rl,r1,r2⟩:=hs.r;have q1':Zh Y2 33 h (.slice ta s.motions.length tc) ql:=q1;have r1':Zz h (.slice ra s.ring.length rc) rl:=r1;have hql:ql.length=s.motions.length:=by rw[← q2,List.length_map]
  have hrl:rl.length=s.ring.length:=by rw[← r2];simp [xsL]
  refine ZR func18 rfl (rs:=[_]) rfl rfl ZY (by kernel_rfl) rfl rfl ?_;refine xx ?_;refine Z6 fun b1 nb1 zb1=>?_;(try simp only[ZU]at nb1);refine xx ?_;refine Z6 fun b2 nb2 zb2=>?_;(try simp only[ZU]at nb2);refine xx ?_;refine Zb.ap (GD _ hs.p (by omega) fun h1 v1 le1 i1 ap=>?_);simp only[Ap]at ap;obtain⟨a12,a11,_⟩:=ap;obtain⟨pa1,pc1,rfl,_⟩:=i1.open;refine xx ?_;refine Zfo _ (hs.m.up le1) (by omega) fun om ok1 am1=>?_;have m2:apB om b2:=am1.head;have m1:apB om b1:=(Z2 am1).head;simp -dsimp -implicitDefEqProofs (disch:=first|with_reducible assumption|omega) [go_sem,ZT m1,ZQ m1];refine Yr (.tk 0 (.tk 3 (.tkl 1 (.tkl 4 (.o1 2 (.tk 6 (.o1 5 (.o2 7 (.tk 8 (.o2 9 (.fin) (.nil))) (.nil)) (.nil))) (.nil)))))) (by kernel_rfl) (by kernel_rfl) _ (Za.refl _ _) ?_;simp -dsimp -implicitDefEqProofs (disch:=first|with_reducible assumption|omega) [go_sem,ZT m1,ZQ m1];refine Zau _ (hs.e.up le1) (by omega) fun oe oke ame=>?_;have ame0:=Wf ame;have e2:apB oe b2:=ame0.head;have e1:apB oe b1:=(Z2 ame0).head;obtain⟨ea1,ec1,exe,_⟩:=Yh oke;rw[exe]
  first
  | refine xkp (Za.oent _ _ _ _ _ _) ?_
  | skip
  simp -dsimp -implicitDefEqProofs (disch:=first|with_reducible assumption|omega) [go_sem,ZT e1,ZQ e1,ZT m1,ZQ m1];refine Zau _ (hs.x.up le1) (by omega) fun ox okx amx=>?_;have amx0:=Wf (Wf amx);have x2:apB ox b2:=amx0.head;have x1:apB ox b1:=(Z2 amx0).head;obtain⟨xa1,xc1,exx,_⟩:=Yh okx;rw[exx]
  first
  | refine xkp ((Za.oent _ _ _ _ _ _).trans (Za.oent _ _ _ _ _ _)) ?_
  | refine xkp (Za.oent _ _ _ _ _ _) ?_
  | skip
  simp -dsimp -implicitDefEqProofs (disch:=first|with_reducible assumption|omega) [go_sem,ZT x1,ZQ x1,ZT e1,ZQ e1,ZT m1,ZQ m1];refine Yr (.tk 0 (.tk 3 (.tkl 1 (.tkl 4 (.o1 2 (.tk 6 (.o1 5 (.o2 7 (.tk 8 (.o2 9 (.fin) (.nil))) (.nil)) (.nil))) (.nil)))))) (by kernel_rfl) (by kernel_rfl) _ (Za.refl _ _) ?_;simp -dsimp -implicitDefEqProofs (disch:=first|with_reducible assumption|omega) [go_sem,ZT x1,ZQ x1,ZT e1,ZQ e1,ZT m1,ZQ m1];have le13:=le1;refine Zb.ap (Zgc _ (hs.o.up le13) (by omega) fun h4 v4 le4 i4 ap=>?_);obtain⟨a42,a41,_⟩:=Ap.oent (Ap.oent (Ap.oent ap));obtain⟨oa1,oc1,rfl,_⟩:=i4.open;refine xkp (Za.forget le4) ?_;simp -dsimp -implicitDefEqProofs (disch:=first|with_reducible assumption|omega) [go_sem,ZT x1,ZQ x1,ZT e1,ZQ e1,ZT m1,ZQ m1];have le14:=le13.trans le4;refine Zb.ap (Zao _ (hs.d.up le14) (by omega) fun h5 v5 le5 i5 ap=>?_);obtain⟨a52,a51,_⟩:=Ap.oent (Ap.oent (Ap.oent ap));obtain⟨da1,dc1,rfl,_⟩:=i5.open
  first
  | refine xkp (Za.forget (le4.trans le5)) ?_
  | skip
  simp -dsimp -implicitDefEqProofs (disch:=first|with_reducible assumption|omega) [go_sem,ZT x1,ZQ x1,ZT e1,ZQ e1,ZT m1,ZQ m1];have le15:=le14.trans le5;refine Zai _ (q1'.up le15) (fun x hx=>(q3 x hx).up le15) (by omega) fun ot ok2 at0'=>?_;rw[hql]at ok2 ⊢;have at1:=Wf (Wf (Wf at0'));have t2:apB ot b2:=at1.head;have t1:apB ot b1:=(Z2 at1).head
  replace at1:=Z2 (Z2 at1)
  simp -dsimp -implicitDefEqProofs (disch:=first|with_reducible assumption|omega) [go_sem,ZT t1,ZQ t1,ZT x1,ZQ x1,ZT e1,ZQ e1,ZT m1,ZQ m1];obtain⟨mta,mtc,emt,_⟩:=Yh ok2;rw[emt];refine xx ?_;obtain⟨vv,hvv⟩:∃vv:SV,vv=⟨.slice pa1 s.purses.length pc1,ovs om s.members.length,.slice ea1 s.entry.length ec1,.slice xa1 s.exit.length xc1,.slice oa1 s.pool.length oc1,.slice da1 s.dues.length dc1,.slice mta s.motions.length mtc,.slice ka s.marks.length kc,.slice ra s.ring.length rc⟩:=⟨_,rfl⟩
  refine YZ (γ:=Nat×List QM×PH) (0,ql,h5)
    (fun q=>q.1≤s.motions.length∧q.2.1.map (fun x=>x.2.2)=s.motions∧Y7 q.2.2 q.2.1∧PH.le h5 q.2.2∧q.2.2 b2=noC∧q.2.2 b1=noC∧apO ot L q.2.2)
    (fun q=>[(36,.int .i64 q.1),(35,.int .i64 s.motions.length),(1,.pointer (some ⟨b1,0,none⟩)),(2,.pointer (some ⟨b2,0,none⟩))])
    (fun q=>oent 75 33 ot (q.2.1.flatMap Y2) (oent 3 1 ox (s.exit.map (.int .i64)) (oent 3 1 oe (s.entry.map (.int .i64)) (oent 73 6 om (s.members.flatMap YK) (⟨b2,39,stC Ui Zge,41⟩::⟨b1,39,stC s vv,41⟩::L))))) (fun q=>q.2.2) (fun q=>s.motions.length-q.1) ?_ ?_ ?_ ?_
  · exact⟨Nat.zero_le _,q2,fun x hx=>(q3 x hx).up le15,PH.le_refl _,a52,a51,at1⟩
  · simp [Ent,List.lookup,WM]
  · subst hvv;exact Za.refl _ _
  rintro⟨k,ql',h6⟩ ⟨k1,k2,k3,k4,k5,k6,k8⟩;simp only at k1 k2 k3 k4 k5 k6 k8 ⊢;have hql':ql'.length=s.motions.length:=by rw[← k2,List.length_map]
  subst hvv;by_cases c1:k<s.motions.length
  · obtain ⟨bt,cap,rfl⟩ : ∃ bt cap,ot = some (bt,cap) := by
      cases ot with
      | none=>have:s.motions.length=0:=ok2;omega
      | some p=>exact⟨_,_,rfl⟩
    simp only[ovs,Value.slice.injEq]at emt;obtain⟨rfl,_,rfl⟩:=emt;have hbt:h6 bt=noC:=k8.2;have n21:bt≠b2:=t2;have n11:bt≠b1:=t1;obtain⟨qk,hqk⟩:∃qk,qk=gr Yc ql' k:=⟨_,rfl⟩
    have hmem:qk∈ql':=by rw[hqk,Yl (by omega)];exact List.getElem_mem _
    have hmk:Zw h6 qk:=k3 qk hmem;have hmdm:qk.2.2∈s.motions:=by rw[← k2];exact List.mem_map.2 ⟨qk,hmem,rfl⟩
    obtain⟨vy,vn,md⟩:=qk;have hy:=hmk.y;have hn:=hmk.n;simp only at hy hn;obtain⟨ya,yc,rfl,_⟩:=hy.open;obtain⟨na,nc,rfl,_⟩:=hn.open;simp only at hmdm;have fv:=few.v md hmdm;have g31:∀(K:Value→Prop) (t:Zq K),VP (ql'.flatMap Y2) (k*33+31) K t=K (.slice ya md.yes.length yc):=fun K t=>Yq Z9 Yc ql' (by omega) (by decide) (by rw[← hqk];rfl) K t;have g32:∀(K:Value→Prop) (t:Zq K),VP (ql'.flatMap Y2) (k*33+32) K t=K (.slice na md.no.length nc):=fun K t=>Yq Z9 Yc ql' (by omega) (by decide) (by rw[← hqk];rfl) K t;have hfl:(ql'.flatMap Y2).length=s.motions.length*33:=by rw[Z3 Z9,hql']
    rw[Yg];simp -dsimp -implicitDefEqProofs (disch:=first|with_reducible assumption|omega) [go_sem,ZT x1,ZQ x1,ZT e1,ZQ e1,ZT m1,ZQ m1];refine Yr (.tk 0 (.tk 2 (.tk 3 (.tk 5 (.tk 6 (.tk 8 (.tk 13 (.tk 15 (.tkl 1 (.tkl 7 (.tk 9 (.tk 10 (.tkl 11 (.o1 4 (.o1 12 (.o1 14 (.tk 16 (.tk 17 (.tkl 18 (.o1 19 (.tk 20 (.tk 21 (.o2 22 (.tk 23 (.tk 24 (.o2 25 (.fin) (.nil)))) (.nil)))) (.nil))))) (.nil)) (.o1 14 (.tk 16 (.tk 17 (.tkl 18 (.o1 12 (.o1 19 (.tk 20 (.tk 21 (.o2 22 (.tk 23 (.tk 24 (.o2 25 (.fin) (.nil)))) (.nil)))) (.nil)) (.nil))))) (.nil))) (.o1 12 (.o1 4 (.o1 14 (.tk 16 (.tk 17 (.tkl 18 (.o1 19 (.tk 20 (.tk 21 (.o2 22 (.tk 23 (.tk 24 (.o2 25 (.fin) (.nil)))) (.nil)))) (.nil))))) (.nil)) (.o1 14 (.tk 16 (.tk 17 (.tkl 18 (.o1 4 (.o1 19 (.tk 20 (.tk 21 (.o2 22 (.tk 23 (.tk 24 (.o2 25 (.fin) (.nil)))) (.nil)))) (.nil)) (.o1 19 (.tk 20 (.tk 21 (.o1 4 (.o2 22 (.tk 23 (.tk 24 (.o2 25 (.fin) (.nil)))) (.nil)) (.o2 22 (.o1 4 (.tk 23 (.tk 24 (.o2 25 (.fin) (.nil)))) (.nil)) (.nil))))) (.nil)))))) (.nil))) (.o1 14 (.tk 16 (.tk 17 (.tkl 18 (.o1 4 (.o1 12 (.o1 19 (.tk 20 (.tk 21 (.o2 22 (.tk 23 (.tk 24 (.o2 25 (.fin) (.nil)))) (.nil)))) (.nil)) (.nil)) (.o1 12 (.o1 4 (.o1 19 (.tk 20 (.tk 21 (.o2 22 (.tk 23 (.tk 24 (.o2 25 (.fin) (.nil)))) (.nil)))) (.nil)) (.o1 19 (.tk 20 (.tk 21 (.o1 4 (.o2 22 (.tk 23 (.tk 24 (.o2 25 (.fin) (.nil)))) (.nil)) (.o2 22 (.o1 4 (.tk 23 (.tk 24 (.o2 25 (.fin) (.nil)))) (.nil)) (.nil))))) (.nil))) (.nil)))))) (.nil))))))))))))))))) (by kernel_rfl) (by kernel_rfl) _ (Za.refl _ _) ?_
    simp -dsimp -implicitDefEqProofs (disch:=first|with_reducible assumption|omega) [go_sem,ZT x1,ZQ x1,ZT e1,ZQ e1,ZT m1,ZQ m1,g31,g32];have hset:∀a ac b bc,((ql'.flatMap Y2).set (k*33+31) (.slice a md.yes.length ac)).set (k*33+32) (.slice b md.no.length bc)=(ql'.set k (.slice a md.yes.length ac,.slice b md.no.length bc,md)).flatMap Y2:=fun a ac b bc=>by
      rw[Wm Z9 Yc ql' (i:=k) (m:=31) (a':=(.slice a md.yes.length ac,.slice na md.no.length nc,md)) (by omega) (by decide) (by rw[← hqk];rfl)];rw[Wm Z9 Yc _ (i:=k) (m:=32) (a':=(.slice a md.yes.length ac,.slice b md.no.length bc,md)) (by rw[List.length_set];omega) (by decide) (by rw[Yl (by rw[List.length_set];omega),List.getElem_set_self];rfl),List.set_set]
    have hmd:s.motions[k]?=some md:=by
      rw[← k2,List.getElem?_map,List.getElem?_eq_getElem (by omega),← Yl (z:=Yc) (by omega),← hqk]
      rfl
    have hmap:∀(a b:Value),(ql'.set k (a,b,md)).map (fun x=>x.2.2)=s.motions:=fun a b=>by
      rw[List.map_set,k2];apply List.ext_getElem?;intro n;rw[List.getElem?_set];split
      · rename_i e;subst e
        first
        | exact hmd.symm
        | (split
           · exact hmd.symm
           · rw[List.getElem?_eq_none (by omega)])
      · rfl
    repeat' first
      | refine YF ?_ ?_
      | simp -dsimp -implicitDefEqProofs (disch:=first|with_reducible assumption|omega) [go_sem,ZT x1,ZQ x1,ZT e1,ZQ e1,ZT m1,ZQ m1,g31,g32]
    all_goals
      refine Zb.ap (Y8 _ hy (by omega) fun h7 v7 le7 i7 ap=>?_);obtain⟨y1,y2⟩:=ap;obtain⟨y3,y4,_⟩:=Ap.oent (Ap.oent (Ap.oent y2));obtain⟨wa,wc,rfl,_⟩:=i7.open
      first
      | refine xkp (Za.forget le7) ?_
      | skip
    repeat' first
      | refine YF ?_ ?_
      | simp -dsimp -implicitDefEqProofs (disch:=first|with_reducible assumption|omega) [go_sem,ZT x1,ZQ x1,ZT e1,ZQ e1,ZT m1,ZQ m1,g31,g32]
      | refine xkp (Za.forget le7) ?_
    all_goals
      refine Zb.ap (Y8 _ (hn.up le7) (by omega) fun h8 v8 le8 i8 ap=>?_);obtain⟨z1,z2⟩:=ap;obtain⟨z3,z4,_⟩:=Ap.oent (Ap.oent (Ap.oent z2));obtain⟨ua,uc,rfl,_⟩:=i8.open
      first
      | refine xkp (Za.forget (le7.trans le8)) ?_
      | skip
    repeat' first
      | refine YF ?_ ?_
      | simp -dsimp -implicitDefEqProofs (disch:=first|with_reducible assumption|omega) [go_sem,ZT x1,ZQ x1,ZT e1,ZQ e1,ZT m1,ZQ m1,g31,g32]
      | refine xkp (Za.forget (le7.trans le8)) ?_
    all_goals
      have hsum:(ql'.map fun a=>(Y2 a).length).sum=s.motions.length*33:=by rw[← List.length_flatMap,hfl]
      have hk33:=Wv (n:=s.motions.length) (w:=33) c1 (m:=32) (by decide);refine⟨by omega,by omega,k+1,ql'.set k (.slice wa md.yes.length wc,.slice ua md.no.length uc,md),h8,⟨by omega,hmap _ _,fun x hx=>?_,k4.trans (le7.trans le8),z3,z4,⟨k8.1,z1⟩⟩,by omega,by simp [Ent,List.lookup],?_⟩
      · rcases List.mem_or_eq_of_mem_set hx with hx|rfl
        · exact(k3 x hx).up (le7.trans le8)
        · exact⟨i7.up le8,i8,hmk.ok⟩
      · rw[hset];exact Za.refl _ _
  have hkl:k=s.motions.length:=by omega
  subst hkl;simp -dsimp -implicitDefEqProofs (disch:=first|with_reducible assumption|omega) [go_sem,ZT t1,ZQ t1,ZT x1,ZQ x1,ZT e1,ZQ e1,ZT m1,ZQ m1];refine Vq (e:=75) (sz:=33) (n:=s.motions.length) ok2 (by rw[Z3 Z9,hql']) (by omega) k8 fun h7 le7 sl7=>?_;have le17:PH.le h h7:=(le15.trans k4).trans le7;have kq2:=k2;have kq4:=k4;refine Zb.ap (Y8 _ (hs.k.up le17) (by omega) fun h8 v8 le8 i8 ap=>?_);obtain⟨a82,a81,_⟩:=Ap.oent (Ap.oent (Ap.oent ap));obtain⟨ka1,kc1,rfl,_⟩:=i8.open;have rmot:Zh Y2 33 h8 (.slice mta s.motions.length mtc) ql':=by
    have:=Zh.pub (f:=Y2) (w:=33) (l:=ql') (o:=ot) Z9 (by rw[hql'];exact sl7);rw[hql',emt]at this;exact this.up le8
  have imot:Y7 h8 ql':=fun x hx=>(k3 x hx).up (le7.trans le8);have le18:=le17.trans le8;simp -dsimp -implicitDefEqProofs (disch:=first|with_reducible assumption|omega) [go_sem,ZT x1,ZQ x1,ZT e1,ZQ e1,ZT m1,ZQ m1];refine Zgu _ (r1'.up le18) (by omega) fun orr ok3 ar=>?_;rw[hrl]at ok3 ⊢;have ar1:=Wf (Wf (Wf ar));have rb2:apB orr b2:=ar1.head;have rb1:apB orr b1:=(Z2 ar1).head
  replace ar1:=Z2 (Z2 ar1)
  simp -dsimp -implicitDefEqProofs (disch:=first|with_reducible assumption|omega) [go_sem,ZT rb1,ZQ rb1,ZT x1,ZQ x1,ZT e1,ZQ e1,ZT m1,ZQ m1];obtain⟨rta,rtc,ert,_⟩:=Yh ok3;rw[ert];refine xx ?_;refine YZ (γ:=Nat×List QS×PH) (0,rl,h8)
    (fun q=>q.1≤s.ring.length∧xsL q.2.1=s.ring∧Yla q.2.2 q.2.1∧PH.le h8 q.2.2∧q.2.2 b2=noC∧q.2.2 b1=noC∧apO orr L q.2.2)
    (fun q=>[(75,.int .i64 q.1),(74,.int .i64 s.ring.length),(1,.pointer (some ⟨b1,0,none⟩)),(2,.pointer (some ⟨b2,0,none⟩))])
    (fun q=>oent 36 1 orr (vsL q.2.1) (oent 3 1 ox (s.exit.map (.int .i64)) (oent 3 1 oe (s.entry.map (.int .i64)) (oent 73 6 om (s.members.flatMap YK) (⟨b2,39,stC Ui Zge,41⟩::⟨b1,39,stC s ⟨.slice pa1 s.purses.length pc1,ovs om s.members.length,.slice ea1 s.entry.length ec1,.slice xa1 s.exit.length xc1,.slice oa1 s.pool.length oc1,.slice da1 s.dues.length dc1,.slice mta s.motions.length mtc,.slice ka1 s.marks.length kc1,.slice rta s.ring.length rtc⟩,41⟩::L))))) (fun q=>q.2.2) (fun q=>s.ring.length-q.1) ?_ ?_ ?_ ?_
  · exact⟨Nat.zero_le _,r2,fun x hx=>(r1'.d x hx).up le18,PH.le_refl _,a82,a81,ar1⟩
  · simp [Ent,List.lookup,WM]
  · exact Za.refl _ _
  rintro⟨k,rl',h9⟩ ⟨k1,k2,k3,k4,k5,k6,k8⟩;simp only at k1 k2 k3 k4 k5 k6 k8 ⊢;have hrl':rl'.length=s.ring.length:=by rw[← k2];simp [xsL]
  by_cases c2:k<s.ring.length
  · obtain ⟨bt,cap,rfl⟩ : ∃ bt cap,orr = some (bt,cap) := by
      cases orr with
      | none=>have:s.ring.length=0:=ok3;omega
      | some p=>exact⟨_,_,rfl⟩
    simp only[ovs,Value.slice.injEq]at ert;obtain⟨rfl,_,rfl⟩:=ert;have hbt:h9 bt=noC:=k8.2;have n21:bt≠b2:=rb2;have n11:bt≠b1:=rb1;obtain⟨qk,hqk⟩:∃qk,qk=gs rl' k:=⟨_,rfl⟩
    have hmem:qk∈rl':=by rw[hqk,Zcp (by omega)];exact List.getElem_mem _
    have hy:=k3 qk hmem;have hbm:qk.2∈s.ring:=by rw[← k2];exact List.mem_map.2 ⟨qk,hmem,rfl⟩
    have fv:=few.b _ hbm;obtain⟨vy,by'⟩:=qk;simp only at hy hbm fv;obtain⟨ya,yc,rfl,_⟩:=hy.open;have g1:∀(K:Value→Prop) (t:Zq K),VP (vsL rl') k K t=K (.slice ya by'.length yc):=fun K t=>Zod (by rw[vsL,List.getElem?_map,List.getElem?_eq_getElem (by omega),← Zcp (by omega),← hqk];rfl);have hfl:(vsL rl').length=s.ring.length:=by simp [vsL,hrl']
    rw[Yg];simp -dsimp -implicitDefEqProofs (disch:=first|with_reducible assumption|omega) [go_sem,ZT x1,ZQ x1,ZT e1,ZQ e1,ZT m1,ZQ m1];refine Yr (.tk 0 (.tk 2 (.tk 3 (.tk 5 (.tkl 1 (.tkl 4 (.tk 6 (.tkl 7 (.o1 8 (.tk 9 (.o2 10 (.fin) (.nil))) (.nil)))))))))) (by kernel_rfl) (by kernel_rfl) _ (Za.refl _ _) ?_;simp -dsimp -implicitDefEqProofs (disch:=first|with_reducible assumption|omega) [go_sem,ZT x1,ZQ x1,ZT e1,ZQ e1,ZT m1,ZQ m1,g1]
    repeat' first
      | refine YF ?_ ?_
      | simp -dsimp -implicitDefEqProofs (disch:=first|with_reducible assumption|omega) [go_sem,ZT x1,ZQ x1,ZT e1,ZQ e1,ZT m1,ZQ m1,g1]
    all_goals
      refine Zb.ap (Y8 _ hy (by omega) fun h10 v10 le10 i10 ap=>?_);obtain⟨y1,y2⟩:=ap;obtain⟨y3,y4,_⟩:=Ap.oent (Ap.oent (Ap.oent y2));obtain⟨wa,wc,rfl,_⟩:=i10.open
      first
      | refine xkp (Za.forget le10) ?_
      | skip
    repeat' first
      | refine YF ?_ ?_
      | simp -dsimp -implicitDefEqProofs (disch:=first|with_reducible assumption|omega) [go_sem,ZT x1,ZQ x1,ZT e1,ZQ e1,ZT m1,ZQ m1,g1]
      | refine xkp (Za.forget le10) ?_
    all_goals
      refine⟨by rw[hfl];exact c2,k+1,rl'.set k (.slice wa by'.length wc,by'),h10,⟨by omega,?_,fun x hx=>?_,k4.trans le10,y3,y4,⟨k8.1,y1⟩⟩,by omega,by simp [Ent,List.lookup],?_⟩
      · rw[← k2,xsL,xsL,List.map_set];apply List.ext_getElem?;intro n;rw[List.getElem?_set];split
        · rename_i e;subst e;have:(rl'.map (fun x:QS=>x.2))[k]?=some by':=by
            rw[List.getElem?_map,List.getElem?_eq_getElem (by omega),← Zcp (by omega),← hqk];rfl
          first
          | exact this.symm
          | (split
             · exact this.symm
             · rename_i hh;exfalso;apply hh;simp;omega)
        · rfl
      · rcases List.mem_or_eq_of_mem_set hx with hx|rfl
        · exact(k3 x hx).up le10
        · exact i10
      · rw[vsL,vsL,List.map_set,Yg,Nat.mul_one];exact Za.refl _ _
  have hkl:k=s.ring.length:=by omega
  subst hkl;simp -dsimp -implicitDefEqProofs (disch:=first|with_reducible assumption|omega) [go_sem,ZT rb1,ZQ rb1,ZT rb2,ZQ rb2,ZT x1,ZQ x1,ZT e1,ZQ e1,ZT m1,ZQ m1,ZT x2,ZQ x2,ZT e2,ZQ e2,ZT m2,ZQ m2];have le10:=Ws (h:=h9) k8 (vsL rl');have sl10:=Vt (h:=h9) (sz:=1) (n:=s.ring.length) (o:=orr) (xs:=vsL rl') ok3 (by simp [vsL,hrl']) (by omega);have le8':PH.le h8 (GG h9 orr (vsL rl')):=k4.trans le10;have hst:Zz (GG h9 orr (vsL rl')) (.slice rta s.ring.length rtc) rl':=by
    rw[← ert];rw[← hrl']at sl10 ⊢;exact Zrf sl10 fun p hp=>(k3 p hp).up le10
  have le5':=kq4.trans (le7.trans (le8.trans le8'));have le4':=le5.trans le5';have le2':=le4.trans le4';have hS:Zs (GG h9 orr (vsL rl')) (Yab ⟨.slice pa1 s.purses.length pc1,.slice none 0 0,.slice none 0 0,.slice none 0 0,.slice oa1 s.pool.length oc1,.slice da1 s.dues.length dc1,.slice mta s.motions.length mtc,.slice ka1 s.marks.length kc1,.slice rta s.ring.length rtc⟩ (.slice none 0 0) (.slice none 0 0) (.slice none 0 0)) (Yqx s) :=
    { ok:=⟨hs.ok.p,hs.ok.u,hs.ok.n⟩,p:=i1.up le2',m:=Zh.nil Yb _,mo:=(fun x hx=>by cases hx),e:=Yd _ .i64,x:=Yd _ .i64,o:=i4.up le4',oo:=hs.oo,d:=i5.up le5',dd:=hs.dd,t:=⟨ql',rmot.up le8',kq2,fun x hx=>(imot x hx).up le8'⟩,k:=i8.up le8',r:=⟨rl',hst,k2⟩ }
  exact⟨_,_,(Wi orr (vsL rl') _ h9 (by decide)).trans Zvl,by rw[← exx,← exe];exact hk _ ⟨.slice pa1 s.purses.length pc1,.slice none 0 0,.slice none 0 0,.slice none 0 0,.slice oa1 s.pool.length oc1,.slice da1 s.dues.length dc1,.slice mta s.motions.length mtc,.slice ka1 s.marks.length kc1,.slice rta s.ring.length rtc⟩ om oe ox (le18.trans le8') ok1 oke okx hS⟩
structure ZH (h:PH)(q:RV)(r:Zk):Prop where
 o:Ints h .i64 q.o r.out
 l:Ints h .i64 q.l r.left
 s:Ints h .i64 q.s r.started
 d:Ints h .i64 q.d r.done
theorem Ycb {o:Option (Nat×Nat)}{xs:List Value}:∀ {L:Own},Ap L h→(∀x∈L,apB o x.b)→Ap L (GG h o xs)
 | [],_,_=>trivial
 | _::_,ap,hn=>⟨GJ (hn _ List.mem_cons_self) ap.1,Ycb ap.2 fun x hx=>hn x (List.mem_cons_of_mem _ hx)⟩
theorem Zjp {b:Nat}:∀ {L:Own},ZU b L→∀x∈L,x.b≠b
 | [],_,_,hx=>by cases hx
 | _::_,ha,x,hx=>by
  rcases List.mem_cons.1 hx with rfl|hx
  ·exact ha.1
  ·exact Zjp ha.2 x hx
theorem Wag {e sz:Nat}{o:Option (Nat×Nat)}{xs:List Value}(nd:Nd (oent e sz o xs L)):∀x∈L,apB o x.b:=fun x hx=>by
 cases o with
 | none=>trivial
 | some p=>exact Ne.symm (Zjp nd.1 x hx)
theorem Yqo {e sz:Nat}{o:Option (Nat×Nat)}{xs:List Value}(nd:Nd (oent e sz o xs L)):Nd L:=by
 cases o with
 | none=>exact nd
 | some p=>exact nd.2
theorem Jk {e sz n:Nat}{o:Option (Nat×Nat)}{xs:List Value}{a:Zo}(ok:okO o n)(hl:xs.length=n*sz)(hn:n≤9223372036854775807)(ap:Ap (a::oent e sz o xs L) h)(nd:Nd (a::oent e sz o xs L))(he:e≠4294967295:=by first|decide|omega) :
  ∃h',PH.le h h'∧Za (a::oent e sz o xs L) h (a::L) h'∧Sl h' (ovs o n) n sz xs∧Ap (a::L) h'∧Nd (a::L):=by
 have ap2:=Ap.perm oent_perm ap;have nd2:=Nd.perm oent_perm nd;have ao:apO o [] h:=Y1 ap2;exact⟨GG h o xs,Ws ao xs,(Za.perm h oent_perm).trans (Wi o xs _ h he),Vt ok hl hn,Ycb (Ap.oent ap2) (Wag nd2),Yqo nd2⟩
section
variable {e0 s0 e1 s1 e2 s2 e3 s3 e4 s4 e5 s5:Nat} {o0 o1 o2 o3 o4 o5:Option (Nat×Nat)} {X0 X1 X2 X3 X4 X5:List Value} {a:Zo}
theorem Wbj:(a::oent e0 s0 o0 X0 (oent e1 s1 o1 X1 (oent e2 s2 o2 X2 L))).Perm (a::oent e2 s2 o2 X2 (oent e0 s0 o0 X0 (oent e1 s1 o1 X1 L))):=by
 refine List.Perm.cons _ ?_;exact(Yf o0 X0 (YL o1 o2 X1 X2 _)).trans (YL o0 o2 X0 X2 _)
theorem Yls:(a::oent e0 s0 o0 X0 L).Perm (a::oent e0 s0 o0 X0 (oent e1 s1 none X1 L)):=List.Perm.refl _
theorem Wbz:(a::oent e0 s0 o0 X0 (oent e1 s1 o1 X1 (oent e2 s2 o2 X2 L))).Perm (a::oent e0 s0 o0 X0 (oent e2 s2 o2 X2 (oent e1 s1 o1 X1 L))) :=
 List.Perm.cons _ (Yf o0 X0 (YL o1 o2 X1 X2 _))
theorem Wck:(a::oent e0 s0 o0 X0 (oent e1 s1 o1 X1 (oent e2 s2 o2 X2 (oent e3 s3 o3 X3 L)))).Perm (a::oent e0 s0 o0 X0 (oent e3 s3 o3 X3 (oent e4 s4 none X4 (oent e2 s2 o2 X2 (oent e1 s1 o1 X1 L))))):=by
 refine List.Perm.cons _ (Yf o0 X0 ?_);show (oent e1 s1 o1 X1 (oent e2 s2 o2 X2 (oent e3 s3 o3 X3 L))).Perm (oent e3 s3 o3 X3 (oent e2 s2 o2 X2 (oent e1 s1 o1 X1 L)));refine(YL o1 o2 X1 X2 _).trans ?_;refine(Yf o2 X2 (YL o1 o3 X1 X3 _)).trans ?_;exact YL o2 o3 X2 X3 _
theorem permT3:(a::oent e0 s0 o0 X0 (oent e1 s1 o1 X1 (oent e2 s2 o2 X2 (oent e3 s3 o3 X3 (oent e4 s4 o4 X4 (oent e5 s5 o5 X5 L)))))).Perm (a::oent e0 s0 o0 X0 (oent e4 s4 o4 X4 (oent e5 s5 o5 X5 (oent e1 s1 o1 X1 (oent e2 s2 o2 X2 (oent e3 s3 o3 X3 L)))))):=by
 refine List.Perm.cons _ (Yf o0 X0 ?_);have up:∀ {e s:Nat} {o:Option (Nat×Nat)} {X:List Value} {R:Own},(oent e1 s1 o1 X1 (oent e2 s2 o2 X2 (oent e3 s3 o3 X3 (oent e s o X R)))).Perm (oent e s o X (oent e1 s1 o1 X1 (oent e2 s2 o2 X2 (oent e3 s3 o3 X3 R)))):=fun {e s o X R} =>
  (Yf o1 X1 ((Yf o2 X2 (YL o3 o X3 X _)).trans (YL o2 o X2 X _))).trans (YL o1 o X1 X _)
 exact up.trans (Yf o4 X4 up)
end
section
variable {e0 s0 e1 s1 e2 s2 e3 s3 e4 s4 e5 s5:Nat} {o0 o1 o2 o3 o4 o5:Option (Nat×Nat)} {X0 X1 X2 X3 X4 X5:List Value} {a b c d:Zo}
theorem up3 {e s:Nat}{o:Option (Nat×Nat)}{X:List Value}{R:Own}:(b::c::d::oent e s o X R).Perm (oent e s o X (b::c::d::R)):=Yv [b,c,d]
theorem Ykx:(a::b::c::d::oent e0 s0 o0 X0 L).Perm (a::oent e0 s0 o0 X0 (b::c::d::L)):=List.Perm.cons _ up3
theorem permT5:(a::b::c::d::oent e0 s0 o0 X0 (oent e1 s1 o1 X1 (oent e2 s2 o2 X2 L))).Perm (a::oent e0 s0 o0 X0 (oent e1 s1 o1 X1 (oent e2 s2 o2 X2 (b::c::d::L)))) :=
 List.Perm.cons _ (up3.trans (Yf o0 X0 (up3.trans (Yf o1 X1 up3))))
theorem permT7:(b::c::d::oent e1 s1 o1 X1 (oent e2 s2 o2 X2 (oent e3 s3 o3 X3 (oent e4 s4 o4 X4 (oent e5 s5 o5 X5 L))))).Perm (oent e1 s1 o1 X1 (oent e2 s2 o2 X2 (oent e3 s3 o3 X3 (oent e4 s4 o4 X4 (oent e5 s5 o5 X5 (b::c::d::L)))))) :=
 up3.trans (Yf o1 X1 (up3.trans (Yf o2 X2 (up3.trans (Yf o3 X3 (up3.trans (Yf o4 X4 up3)))))))
theorem Zha:(a::oent e0 s0 o0 X0 (b::c::d::oent e1 s1 o1 X1 (oent e2 s2 o2 X2 (oent e3 s3 o3 X3 (oent e4 s4 o4 X4 (oent e5 s5 o5 X5 L)))))).Perm (a::oent e0 s0 o0 X0 (oent e1 s1 o1 X1 (oent e2 s2 o2 X2 (oent e3 s3 o3 X3 (oent e4 s4 o4 X4 (oent e5 s5 o5 X5 (b::c::d::L))))))) :=
 List.Perm.cons _ (Yf o0 X0 permT7)
theorem Yxc:(a::oent e0 s0 o0 X0 (oent e1 s1 o1 X1 (oent e2 s2 o2 X2 (oent e3 s3 o3 X3 (oent e4 s4 o4 X4 (oent e5 s5 o5 X5 (b::c::d::L))))))).Perm (a::b::c::d::oent e0 s0 o0 X0 (oent e4 s4 o4 X4 (oent e5 s5 o5 X5 (oent e1 s1 o1 X1 (oent e2 s2 o2 X2 (oent e3 s3 o3 X3 L)))))) :=
 permT3.trans (List.Perm.cons _ ((Yf o0 X0 permT7.symm).trans up3.symm))
end
theorem Whh (q:Ze)(cs:List Zc):∀k,∀z∈ouN q cs k,0≤z∧z<k
 | 0,z,hz=>by cases hz
 | k+1,z,hz=>by
  rw[ouN]at hz;split at hz
  ·rcases List.mem_append.1 hz with hz|hz
   ·have:=Whh q cs k z hz;omega
   ·rw[List.mem_singleton]at hz;omega
  ·have:=Whh q cs k z hz;omega
theorem st_b {p:Ze}{t:Int}{n:Nat}(n0:0<n)(W:List Int){x:StX}(hW:∀z∈W,z<n)(h1:∀z∈x.out,0≤z∧z<n)(h2:∀z∈x.go,0≤z∧z<n):∀k,k≤W.length→(∀z∈(stK p t W x k).out,0≤z∧z<(n:Int))∧(∀z∈(stK p t W x k).go,0≤z∧z<(n:Int))∧(stK p t W x k).out.length≤x.out.length+k∧(stK p t W x k).go.length≤x.go.length+k
 | 0,_=>⟨h1,h2,Nat.le_refl _,Nat.le_refl _⟩
 | k+1,hk=>by
  obtain⟨i1,i2,i3,i4⟩:=st_b (p:=p) (t:=t) n0 W hW h1 h2 k (by omega);have hz:=hW (at0 W k) (by rw[← Yx (by omega)];exact List.getElem_mem _);have hz2:(((at0 W k).toNat:Nat):Int)<n:=by omega
  have new:∀l:List Int,(∀z∈l,0≤z∧z<(n:Int))→∀z∈l++[((at0 W k).toNat:Int)],0≤z∧z<(n:Int):=fun l hl z hz=>by
   rcases List.mem_append.1 hz with hz|hz
   ·exact hl z hz
   ·rw[List.mem_singleton]at hz;omega
  rw[stK,Zbi];split
  ·exact⟨i1,new _ i2,by simp only;omega,by simp only[List.length_append,List.length_singleton];omega⟩
  ·exact⟨new _ i1,i2,by simp only[List.length_append,List.length_singleton];omega,by simp only;omega⟩
theorem Wbk {W:List Int}{x:MoX}{n:Nat}(n0:0<n)(hW:∀z∈W,z<n)(h0:∀z∈x.dn,0≤z∧z<n):∀k,k≤W.length→∀z∈(moK W x k).dn,0≤z∧z<(n:Int)
 | 0,_=>h0
 | k+1,hk=>fun z hz=>by
  have ih:=Wbk n0 hW h0 k (by omega);have hw:=hW (at0 W k) (by rw[← Yx (by omega)];exact List.getElem_mem _);have e:(moK W x (k+1)).dn=if moB (gr Yj (moK W x k).mo (at0 W k).toNat) (moK W x k).tr then (moK W x k).dn++[((at0 W k).toNat:Int)] else (moK W x k).dn:=rfl
  rw[e]at hz;split at hz
  ·rcases List.mem_append.1 hz with hz|hz
   ·exact ih z hz
   ·rw[List.mem_singleton]at hz;omega
  ·exact ih z hz
theorem Ytv {l:List Int}{v:Value}(sl:Sl h v l.length 1 (l.map (.int .i64)))(hl:∀z∈l,0≤z∧z<1000000):Ints h .i64 v l:=⟨sl,fun z hz=>by
 rw[show IntKind.i64.min = -9223372036854775808 by decide,show IntKind.i64.max=9223372036854775807 by decide];have:=hl z hz
 omega⟩
end Go.X

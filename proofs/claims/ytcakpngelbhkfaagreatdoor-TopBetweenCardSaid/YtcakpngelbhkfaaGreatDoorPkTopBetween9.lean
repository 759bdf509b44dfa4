/- Packed texts of a claim: what its theorem uses, joined. -/
import Derived.Test.YtcakpngelbhkfaaGreatDoorPkTopBetween8
set_option maxRecDepth 100000
set_option maxHeartbeats 4000000
set_option linter.unusedVariables false
set_option linter.unusedSimpArgs false
set_option linter.unusedSectionVars false
set_option linter.defProp false
section
namespace Go.Bn
open Go Proofs
def EP (f:Nat→Nat) (s:List Nat):Nat×Nat:=FS f s.length s (0,0)
theorem Nv (f:Nat→Nat):∀ (s:List Nat) (k:Nat) (r:List Nat) (st:Nat×Nat),s.length≤k→FS f k (s++r) st=FS f (k-s.length) r (FS f s.length s st)
 | [],k,r,st,_=>by rw [z4];rfl
 | d::s,0,r,st,h=>by simp at h
 | d::s,k+1,r,st,h=>by
  rw [z5,FS,Nv f s k r _ (by simpa using h),ze,FS,Nat.add_sub_add_right]
theorem Zj (f:Nat→Nat) (s:List Nat) (d:Nat):EP f (s++[d])=if (EP f s).1<f d then (f d,d)else EP f s:=by
 unfold EP
 rw [Nv f s _ [d] _ (by simp),z2,zm,Nat.add_sub_cancel_left]
 rfl
theorem Zi {f:Nat→Nat} {s:List Nat} {k:Nat} (h:s.length≤k):FS f k s (0,0)=EP f s:=by
 have:=Nv f s k [] (0,0) h
 rw [List.append_nil,dC]at this
 exact this
theorem Hu {P:Program} {hp:AA} {E:Au} {a:Tmp} {t:TypeId} {p:Nat} {v:Value} (h:E.get a=some (.pointer (some ⟨p,0,none⟩))) (ht:D6 P t=true) (hc:Az hp ⟨p,0,none⟩=some v):RV P hp E (.cell a t) v:=
 .cell h fun w hw=>Vp ht (by rw [hw];exact hc)
theorem UE {B p n c u a dep:Nat} {A:Option Addr} {b:List UInt8} {F:List AE} {h0:AA} (st0:St B h0 h0 (ED p A n c u b::F)) (hrB:∀h',BC B h0 h'→Rd h' A (b.map AN)) (hl:b.length=n) (hn:n≤1099511627776) (hu:u≤n) (ha:a≤n) (hd:1≤dep∧dep≤256):
  AG Tryz.prog 272 [.pointer (some ⟨p,0,none⟩),nV a,nV dep] h0 fun v h'=>v=Al [nV (D9 b a dep).1,nV (D9 b a dep).2]∧∃u',u'≤n∧St B h0 h' (ED p A n c u' b::F):=by
 obtain ⟨f,hf⟩:∃f,DQ b a=f:=⟨_,rfl⟩
 have hfl:∀d,f d≤258:=fun d=>by rw [←hf];exact Tj b a d
 have hbest:D9 b a dep=FS f dep (HY b a) (0,0):=by rw [←hf];rfl
 refine Bg Tryz.func272 rfl fun _=> ?_
 have st:=st0
 refine AB ?_
 refine xv (Bv rfl rfl) ?_
 rintro _ hp ⟨p3,rfl,hnew⟩
 replace st:=st.new hnew
 refine xv (Bv rfl rfl) ?_
 rintro _ hp ⟨p4,rfl,hnew⟩
 replace st:=st.new hnew
 refine xv (Bv rfl rfl) ?_
 rintro _ hp ⟨p5,rfl,hnew⟩
 replace st:=st.new hnew
 refine xn st fun p6 hp st=> ?_
 refine xn st fun p7 hp st=>AC ?_
 refine Hx rfl (fun _ _ _ hh=>hh) (AF ?_)
 refine xc st 4 0 ?_
 refine AB ?_
 refine xc st 2 0 ?_
 refine AC ?_
 refine AT (.bool false) (congrArg Value.bool (zu (by omega))) (Aj ?_)
 refine xc st 4 0 ?_
 refine xc st 3 0 ?_
 refine xk (bI) rfl ?_
 rintro _ hp6 ⟨q1,q2,rfl,st2⟩
 replace st:=st.join st2
 simp only [z5,z4]at st
 clear st2
 refine AB ?_
 refine GL st rfl rfl (by kernel_rfl) fun fn tmps L y d hp1 hL hok hx1 st1=> ?_
 obtain ⟨JR,hJR⟩:∃JR:List Nat→List AE,JR=fun s=>[Fb (s.length<dep) (pt p5 3 [nV (dep-s.length)]),pt p6 3 [nV (EP f s).1],pt p7 3 [nV (EP f s).2],pt p3 331 [.pointer (some ⟨p,0,none⟩)],pt p4 3 [nV a],BG y (L .ready none)]:=⟨_,rfl⟩
 obtain ⟨JD,hJD⟩:∃JD:List Nat→List AE,JD=fun s=>[Fb (D9 b a dep=EP f s) (pt p6 3 [nV (EP f s).1]),pt p7 3 [nV (EP f s).2],BG y (L .done (some (.exit 0)))]:=⟨_,rfl⟩
 have st2:=St.reF [_,_,_,_,_,_,_,_,_,_] 10 (F:=F) st1 [6,5,4,8,7,0,9,3,2,1] (by decide)
 simp only [zj,List.map_nil,An,z5,z4]at st2
 have st3:St B h0 hp1 (ED p A n c u b::pt q1 331 [.pointer (some ⟨p,0,none⟩)]::pt q2 3 [nV a]::(JR []++(BG d (.deferred (some []))::F))):=by
  have s3:=(St.and.2 ⟨(show ([]:List Nat).length<dep by simp;omega),st2⟩)
  rw [hJR]
  exact St.reF [_,_,_,_,_,_,_,_,_,_] 10 (F:=F) s3 [6,7,8,0,1,2,3,4,5,9] (by decide)
 refine AG.mono (bH (y:=y) JR JD st3.here (fun h' hh=>hrB h' (st3.low.trans hh)) hl hn hu ?_) ?_
 ·intro s x r u' F' h hlow hcs hx1' hxa ha3 st4
  subst hL
  subst hJR
  subst hJD
  simp only [z5,z4]at st4
  obtain ⟨hsd,st4⟩:=St.and.1 st4
  refine GZ (st4.obj_at 5 rfl) hok rfl rfl fun w0 hw0=> ?_
  simp only [E2]
  have hsn:=Zj f s x
  have hb2:D9 b a dep=FS f (dep - (s.length+1)) r (EP f (s++[x])):=by
   rw [hbest,←hcs,show s++x::r=(s++[x])++r by simp,Nv f (s++[x]) dep r _ (by simp;omega)]
   rw [z2,zm];unfold EP;rw [z2,zm]
  obtain ⟨R,hR⟩:∃R,EP f s=R:=⟨_,rfl⟩
  rw [hR]at st4 hsn
  refine AF ?_
  refine GJ (st4.obj_at 5 rfl) ?_
  have st:=st4.loop 5 .busy none rfl
  simp only [z0,z1]at st
  obtain ⟨v6,m6,sto⟩:=St.fin.1 (st.perm (List.perm_middle (l₁:=[_,_,_,_,_,_])))
  refine AF ?_
  refine El (Ck [(6,.grow)]) (by kernel_rfl) (by kernel_rfl) ?_
  refine xc st 3 0 ?_
  refine AB ?_
  refine xc sto 2 0 ?_
  refine xc st 4 0 ?_
  refine AC ?_
  refine BW (CT (bR (hrB _ (st3.low.trans (hlow.trans st.low))) hl hn (by omega) (by omega)) rfl (by kernel_rfl)) rfl rfl rfl (fun _ _ h=>h.2▸BC.refl _ _) ?_
  rintro _ _ ⟨rfl,rfl⟩
  have hfx:DQ b a x=f x:=by rw [←hf]
  rw [hfx]
  clear sto
  refine AH ?_
  refine xc st 1 0 ?_
  refine AB ?_
  refine AK rfl (fun h=> ?_) (fun h=> ?_)
  ·rw [if_pos (by omega)]at hsn
   refine AF ?_
   refine xj st 1 fun hp st=> ?_
   simp only [z0,z1]at st
   refine xj st 2 fun hp st=> ?_
   simp only [z0,z1]at st
   refine AF ?_
   refine xc st 0 0 ?_
   refine xa (Bk (m:=dep-s.length) (n:=1) rfl rfl (by omega) (by simp only [AI];omega)) ?_
   refine xj st 0 fun hp st=> ?_
   simp only [z0,z1]at st
   refine AF ?_
   refine xc st 0 0 ?_
   refine AB ?_
   refine Am 36 rfl (fun h=> ?_) (fun h=> ?_)
   ·refine AH ?_
    have hbf:D9 b a dep=EP f (s++[x]):=by rw [hb2,show dep - (s.length+1)=0 by omega];rfl
    refine Mb rfl (st.obj_at 5 rfl) ⟨false,rfl,fun hh=>absurd hh Bool.false_ne_true,fun _=> ?_⟩
    replace st:=st.loop 5 .done (some (.exit 0)) rfl
    simp only [z0,z1]at st
    have st4:=(St.reF [_,_,_,_,_,_] 6 st [0,3,4,1,2,5] (by decide)).tail.tail.tail
    simp only [zj,List.map_nil,An,z5,z4]at st4
    exact St.and.2 ⟨hbf,by rw [hsn];exact st4⟩
   ·refine xc st 1 0 ?_
    refine AF ?_
    refine AK rfl (fun h=> ?_) (fun h=> ?_)
    ·have hbf:D9 b a dep=EP f (s++[x]):=by rw [hb2];exact QI hfl _ _ _ (by rw [hsn];first | omega | (simp only;omega))
     refine Mb rfl (st.obj_at 5 rfl) ⟨false,rfl,fun hh=>absurd hh Bool.false_ne_true,fun _=> ?_⟩
     replace st:=st.loop 5 .done (some (.exit 0)) rfl
     simp only [z0,z1]at st
     have st4:=(St.reF [_,_,_,_,_,_] 6 st [0,3,4,1,2,5] (by decide)).tail.tail.tail
     simp only [zj,List.map_nil,An,z5,z4]at st4
     exact St.and.2 ⟨hbf,by rw [hsn];exact st4⟩
    ·refine AB ?_
     refine FL (st.obj_at 5 rfl) ⟨true,rfl,fun _=> ?_,fun hh=>absurd hh.symm Bool.false_ne_true⟩
     replace st:=st.loop 5 .ready none rfl
     simp only [z0,z1]at st
     rw [show dep-s.length-1=dep - (s++[x]).length by rw [z2,zm];omega]at st
     exact St.and.2 ⟨by rw [z2,zm];omega,by rw [hsn];exact st⟩
  ·rw [if_neg (by omega)]at hsn
   refine AF ?_
   refine xc st 0 0 ?_
   refine xa (Bk (m:=dep-s.length) (n:=1) rfl rfl (by omega) (by simp only [AI];omega)) ?_
   refine xj st 0 fun hp st=> ?_
   simp only [z0,z1]at st
   refine AF ?_
   refine xc st 0 0 ?_
   refine AB ?_
   refine Am 36 rfl (fun h=> ?_) (fun h=> ?_)
   ·refine AH ?_
    have hbf:D9 b a dep=EP f (s++[x]):=by rw [hb2,show dep - (s.length+1)=0 by omega];rfl
    refine Mb rfl (st.obj_at 5 rfl) ⟨false,rfl,fun hh=>absurd hh Bool.false_ne_true,fun _=> ?_⟩
    replace st:=st.loop 5 .done (some (.exit 0)) rfl
    simp only [z0,z1]at st
    have st4:=(St.reF [_,_,_,_,_,_] 6 st [0,3,4,1,2,5] (by decide)).tail.tail.tail
    simp only [zj,List.map_nil,An,z5,z4]at st4
    exact St.and.2 ⟨hbf,by rw [hsn];exact st4⟩
   ·refine xc st 1 0 ?_
    refine AF ?_
    refine AK rfl (fun h=> ?_) (fun h=> ?_)
    ·have hbf:D9 b a dep=EP f (s++[x]):=by rw [hb2];exact QI hfl _ _ _ (by rw [hsn];first | omega | (simp only;omega))
     refine Mb rfl (st.obj_at 5 rfl) ⟨false,rfl,fun hh=>absurd hh Bool.false_ne_true,fun _=> ?_⟩
     replace st:=st.loop 5 .done (some (.exit 0)) rfl
     simp only [z0,z1]at st
     have st4:=(St.reF [_,_,_,_,_,_] 6 st [0,3,4,1,2,5] (by decide)).tail.tail.tail
     simp only [zj,List.map_nil,An,z5,z4]at st4
     exact St.and.2 ⟨hbf,by rw [hsn];exact st4⟩
    ·refine AB ?_
     refine FL (st.obj_at 5 rfl) ⟨true,rfl,fun _=> ?_,fun hh=>absurd hh.symm Bool.false_ne_true⟩
     replace st:=st.loop 5 .ready none rfl
     simp only [z0,z1]at st
     rw [show dep-s.length-1=dep - (s++[x]).length by rw [z2,zm];omega]at st
     exact St.and.2 ⟨by rw [z2,zm];omega,by rw [hsn];exact st⟩
 rintro _ h' ⟨u',P,hun,hP,st4⟩
 have st5:=st3.trans st4
 clear st4
 rcases hP.symm with ⟨s,x,r,hcs,rfl⟩ | rfl
 ·subst hJD
  simp only [z5,z4]at st5
  have st6:=St.reF [_,_,_,_,_,_,_] 7 (F:=F) st5 [5,1,2,3,4,6,0] (by decide)
  simp only [zj,List.map_nil,An,z5,z4]at st6
  refine .inr ⟨.exit 0,_,st6,fun hp3 st7=> ?_⟩
  obtain ⟨hbf,st⟩:=St.and.1 st7.tail.tail.tail
  refine AB ?_
  refine HV H0 [0] 1 [2,3] 2 [1,3] (by kernel_rfl) (by kernel_rfl) rfl rfl rfl ?_
  refine xc st 0 0 ?_
  refine AC ?_
  refine HT (σ:=Unit) (fun _=>[(6,.pointer (some ⟨p6,0,none⟩)),(7,.pointer (some ⟨p7,0,none⟩))]) (fun _ hp=>St B h0 hp (pt p6 3 [nV (EP f (s++[x])).1]::pt p7 3 [nV (EP f (s++[x])).2]::BG d (.deferred (some []))::ED p A n c u' b::F)) ?_ ?_ ?_
  ·refine xc st 1 0 ?_
   refine xj st 0 fun hp st=> ?_
   simp only [z0,z1]at st
   refine xj st 1 fun hp st=> ?_
   simp only [z0,z1]at st
   refine AC ?_
   exact C7 () (Cu rfl rfl) st
  ·refine xj st 0 fun hp st=> ?_
   simp only [z0,z1]at st
   refine xc st 1 0 ?_
   refine xj st 1 fun hp st=> ?_
   simp only [z0,z1]at st
   refine AC ?_
   exact C7 () (Cu rfl rfl) st
  clear st
  rintro ⟨⟩ hp st
  have stp:=st.put 2 (.deferred none) rfl
  refine Gg (d:=d) (.cons (Hu rfl rfl (stp.cell 0 (i:=0) rfl rfl)) (.cons (Hu rfl rfl (stp.cell 1 (i:=0) rfl rfl)) .nil)) ?_ (st.obj_at 2 rfl)
  rw [hbf]
  exact ⟨rfl,u',hun,stp.tail.tail.tail⟩
 subst hJR
 simp only [z5,z4]at st5
 have st6:=St.reF [_,_,_,_,_,_,_,_,_,_] 10 (F:=F) st5 [8,1,2,3,4,5,6,7,9,0] (by decide)
 simp only [zj,List.map_nil,An,z5,z4]at st6
 refine .inl ⟨_,st6,fun hp3 st7=> ?_⟩
 clear st5 st6
 obtain ⟨hcd,st8⟩:=St.and.1 st7.tail.tail.tail
 have st:=(St.reF [_,_,_,_,_,_,_] 7 (F:=F) st8 [0,3,4,1,2,5,6] (by decide)).tail.tail.tail
 simp only [zj,List.map_nil,An,z5,z4]at st
 rw [Zi (by omega)]at hbest
 refine AB ?_
 refine HV H0 [0] 1 [2,3] 2 [1,3] (by kernel_rfl) (by kernel_rfl) rfl rfl rfl ?_
 refine xc st 0 0 ?_
 refine AC ?_
 refine HT (σ:=Unit) (fun _=>[(6,.pointer (some ⟨p6,0,none⟩)),(7,.pointer (some ⟨p7,0,none⟩))]) (fun _ hp=>St B h0 hp (pt p6 3 [nV (EP f (HY b a)).1]::pt p7 3 [nV (EP f (HY b a)).2]::BG d (.deferred (some []))::ED p A n c u' b::F)) ?_ ?_ ?_
 ·refine xc st 1 0 ?_
  refine xj st 0 fun hp st=> ?_
  simp only [z0,z1]at st
  refine xj st 1 fun hp st=> ?_
  simp only [z0,z1]at st
  refine AC ?_
  exact C7 () (Cu rfl rfl) st
 ·refine xj st 0 fun hp st=> ?_
  simp only [z0,z1]at st
  refine xc st 1 0 ?_
  refine xj st 1 fun hp st=> ?_
  simp only [z0,z1]at st
  refine AC ?_
  exact C7 () (Cu rfl rfl) st
 clear st
 rintro ⟨⟩ hp st
 have stp:=st.put 2 (.deferred none) rfl
 refine Gg (d:=d) (.cons (Hu rfl rfl (stp.cell 0 (i:=0) rfl rfl)) (.cons (Hu rfl rfl (stp.cell 1 (i:=0) rfl rfl)) .nil)) ?_ (st.obj_at 2 rfl)
 rw [hbest]
 exact ⟨rfl,u',hun,stp.tail.tail.tail⟩
end Go.Bn
end

section
namespace Go.Bn
open Go Proofs
theorem fe (lv:Int) (h0:AA):AG Tryz.prog 243 [.int .i64 lv] h0 fun v h'=>v=nV (Dq lv)∧h0=h':=by
 refine BE Tryz.func243 rfl fun _=>EY ?_
 refine AK rfl (fun h=> ?_) (fun h=> ?_)
 ·refine AH ?_
  exact ⟨by rw [show Dq lv=1 by unfold Dq;rw [if_pos (by omega)]];rfl,rfl⟩
 ·refine AH ?_
  refine AK rfl (fun h=> ?_) (fun h=> ?_)
  ·refine AH ?_
   exact ⟨by rw [show Dq lv=4 by unfold Dq;rw [if_neg (by omega),if_pos (by omega)]];rfl,rfl⟩
  ·refine AH ?_
   refine AK rfl (fun h=> ?_) (fun h=> ?_)
   ·refine AH ?_
    exact ⟨by rw [show Dq lv=32 by unfold Dq;rw [if_neg (by omega),if_neg (by omega),if_pos (by omega)]];rfl,rfl⟩
   ·refine AO ?_
    exact ⟨by rw [show Dq lv=256 by unfold Dq;rw [if_neg (by omega),if_neg (by omega),if_neg (by omega)]];rfl,rfl⟩
@[reducible] def Jw (A:Option Addr) (n c pf:Nat) (lv:Int):List Value:=[.slice A n c,.pointer (some ⟨pf,0,none⟩),nV (Dq lv),.bool (decide (2≤lv))]
theorem fm {B ps pf n c u a:Nat} {lv:Int} {A:Option Addr} {b:List UInt8} {F:List AE} {h0:AA} (st0:St B h0 h0 (pt ps 334 (Jw A n c pf lv)::ED pf A n c u b::F)) (hrB:∀h',BC B h0 h'→Rd h' A (b.map AN)) (hl:b.length=n) (hn:n≤1099511627776) (hu:u≤n) (ha:a<n):
  AG Tryz.prog 244 [.pointer (some ⟨ps,0,none⟩),nV a] h0 fun v h'=>v= .agg (Ah (D8 b lv a)).toArray∧∃u',u'≤n∧St B h0 h' (pt ps 334 (Jw A n c pf lv)::ED pf A n c u' b::F):=by
 obtain ⟨T,hT⟩:∃T,D8 b lv a=T:=⟨_,rfl⟩
 rw [hT]
 unfold D8 at hT
 have hdm:=ZG lv
 obtain ⟨R,hR⟩:∃R,D9 b a (Dq lv)=R:=⟨_,rfl⟩
 obtain ⟨R2,hR2⟩:∃R,D9 b (a+1) (Dq lv)=R:=⟨_,rfl⟩
 rw [hR,hR2,GR (by omega)]at hT
 refine Ac Tryz.func244 rfl fun _=> ?_
 have st:=st0
 refine AB ?_
 refine xn st fun p4 hp st=> ?_
 replace st:St B h0 hp (pt p4 290 (Ah AW.nil)::pt ps 334 (Jw A n c pf lv)::ED pf A n c u b::F):=st
 refine AL ?_
 refine xc st 1 1 ?_
 refine AJ ?_
 refine xc st 1 2 ?_
 refine xk (UE (St.reF [_,_,_] 3 (F:=F) st.here [2,0,1] (by decide)) (fun h' hh=>hrB h' (st.low.trans hh)) hl hn hu (by omega) hdm) rfl ?_
 rintro _ hp4 ⟨rfl,u1,hu1,st2⟩
 replace st:=st.trans (St.reF [_,_,_] 3 (F:=F) st2 [1,2,0] (by decide))
 simp only [zj,List.map_nil,An,z5,z4]at st
 clear st2
 rw [hR]
 refine By ?_
 refine AK rfl (fun h=> ?_) (fun h=> ?_)
 ·rw [if_pos (.inl (by omega))]at hT
  subst hT
  obtain ⟨g,o,rfl,hc⟩:=(hrB _ st.low).at_ (by rw [z3];omega)
  have hci:=hc a _ (by rw [zr,z9 (by omega)];rfl)
  refine AH ?_
  refine xc st 1 0 ?_
  refine AC ?_
  refine xa (C0 (i:=a) rfl rfl rfl (by omega)) ?_
  refine xl (hci) rfl ?_
  refine xa (AZ (ps:=[(0,.int .u8 ((b[a]'(by omega)).toNat:Int))]) (cs:=(Ah ⟨((b[a]'(by omega)).toNat:Int),0,0⟩).toArray) rfl rfl) ?_
  refine xw (us:=Ah ⟨((b[a]'(by omega)).toNat:Int),0,0⟩) st 0 (Co _) fun hp st=> ?_
  simp only [z0,z1]at st
  refine AC ?_
  refine Af (.cons (Ax (vs:=Ah _) rfl rfl rfl (st.cells 0 rfl)) .nil) ?_
  exact ⟨rfl,u1,hu1,st.tail⟩
 ·refine AO ?_
  refine xc st 1 3 ?_
  refine AC ?_
  refine Am 36 rfl (fun h=> ?_) (fun h=> ?_)
  ·refine AJ ?_
   refine AK rfl (fun h=> ?_) (fun h=> ?_)
   ·refine AH ?_
    refine xc st 1 1 ?_
    refine AH ?_
    refine xc st 1 2 ?_
    refine xk (UE (St.reF [_,_,_] 3 (F:=F) st.here [2,0,1] (by decide)) (fun h' hh=>hrB h' (st.low.trans hh)) hl hn hu1 (by omega) hdm) rfl ?_
    rintro _ hp5 ⟨rfl,u2,hu2,st2⟩
    replace st:=st.trans (St.reF [_,_,_] 3 (F:=F) st2 [1,2,0] (by decide))
    simp only [zj,List.map_nil,An,z5,z4]at st
    clear st2
    rw [hR2]
    refine By ?_
    refine AK rfl (fun h=> ?_) (fun h=> ?_)
    ·rw [if_pos (.inr ⟨by omega,by omega,by omega⟩)]at hT
     subst hT
     obtain ⟨g,o,rfl,hc⟩:=(hrB _ st.low).at_ (by rw [z3];omega)
     have hci:=hc a _ (by rw [zr,z9 (by omega)];rfl)
     refine AH ?_
     refine xc st 1 0 ?_
     refine AC ?_
     refine xa (C0 (i:=a) rfl rfl rfl (by omega)) ?_
     refine xl (hci) rfl ?_
     refine xa (AZ (ps:=[(0,.int .u8 ((b[a]'(by omega)).toNat:Int))]) (cs:=(Ah ⟨((b[a]'(by omega)).toNat:Int),0,0⟩).toArray) rfl rfl) ?_
     refine xw (us:=Ah ⟨((b[a]'(by omega)).toNat:Int),0,0⟩) st 0 (Co _) fun hp st=> ?_
     simp only [z0,z1]at st
     refine AC ?_
     refine Af (.cons (Ax (vs:=Ah _) rfl rfl rfl (st.cells 0 rfl)) .nil) ?_
     exact ⟨rfl,u2,hu2,st.tail⟩
    ·rw [if_neg (by omega)]at hT
     subst hT
     refine AH ?_
     refine xa (AZ (ps:=[(1,nV R.1),(2,nV R.2)]) (cs:=(Ah ⟨0,(R.1:Int),(R.2:Int)⟩).toArray) rfl rfl) ?_
     refine xw (us:=Ah ⟨0,(R.1:Int),(R.2:Int)⟩) st 0 (Co _) fun hp st=> ?_
     simp only [z0,z1]at st
     refine AC ?_
     refine Af (.cons (Ax (vs:=Ah _) rfl rfl rfl (st.cells 0 rfl)) .nil) ?_
     exact ⟨rfl,_,by assumption,st.tail⟩
   ·rw [if_neg (by omega)]at hT
    subst hT
    refine AH ?_
    refine xa (AZ (ps:=[(1,nV R.1),(2,nV R.2)]) (cs:=(Ah ⟨0,(R.1:Int),(R.2:Int)⟩).toArray) rfl rfl) ?_
    refine xw (us:=Ah ⟨0,(R.1:Int),(R.2:Int)⟩) st 0 (Co _) fun hp st=> ?_
    simp only [z0,z1]at st
    refine AC ?_
    refine Af (.cons (Ax (vs:=Ah _) rfl rfl rfl (st.cells 0 rfl)) .nil) ?_
    exact ⟨rfl,_,by assumption,st.tail⟩
  ·rw [if_neg (by omega)]at hT
   subst hT
   refine BP ?_
   refine xa (AZ (ps:=[(1,nV R.1),(2,nV R.2)]) (cs:=(Ah ⟨0,(R.1:Int),(R.2:Int)⟩).toArray) rfl rfl) ?_
   refine xw (us:=Ah ⟨0,(R.1:Int),(R.2:Int)⟩) st 0 (Co _) fun hp st=> ?_
   simp only [z0,z1]at st
   refine AC ?_
   refine Af (.cons (Ax (vs:=Ah _) rfl rfl rfl (st.cells 0 rfl)) .nil) ?_
   exact ⟨rfl,_,by assumption,st.tail⟩
theorem fg {n c:Nat} {lv:Int} {A:Option Addr} {h0:AA}:AG Tryz.prog 207 [.slice A n c,.int .i64 lv] h0 fun v h'=>∃p1 p2,v= .func (.func 241) #[] #[.pointer (some ⟨p1,0,none⟩),.pointer (some ⟨p2,0,none⟩)]∧St h0.size h0 h' [pt p2 3 [.int .i64 lv],pt p1 23 [.slice A n c]]:=by
 refine Ac Tryz.func207 rfl fun _=> ?_
 have st:=St.start h0
 refine AB ?_
 refine xv (Bv rfl rfl) ?_
 rintro _ hp ⟨p1,rfl,hnew⟩
 replace st:=st.new hnew
 refine xv (Bv rfl rfl) ?_
 rintro _ hp ⟨p2,rfl,hnew⟩
 replace st:=st.new hnew
 refine AP ?_
 exact ⟨_,_,rfl,st⟩
theorem e9 {b:List UInt8} {lv:Int} {a:Nat} (ha:a<b.length):Du b lv (b.length-a) a=D8 b lv a::Du b lv (b.length - (a+(D8 b lv a).size)) (a+(D8 b lv a).size):=by
 obtain ⟨_,_,_,h4,_⟩:=OE (lv:=lv) ha
 have hp:=AW.size_pos (D8 b lv a)
 obtain ⟨g,hg⟩:∃g,b.length-a=g+1:=⟨b.length-a-1,by omega⟩
 rw [hg,Du,if_pos ha,WK g (b.length - (a+(D8 b lv a).size)) _ h4 (by omega) (by omega)]
theorem e8 {b:List UInt8} {lv:Int} {f a:Nat} (ha:b.length≤a):Du b lv f a=[]:=by
 cases f with
 | zero=>rfl
 | succ f=>rw [Du,if_neg (by omega)]
theorem ff {B y p1 p2 n c:Nat} {lv:Int} {A:Option Addr} {b:List UInt8} {F:List AE} {h0:AA} (JR:List AW→List AE) (st0:St B h0 h0 (pt p2 3 [.int .i64 lv]::pt p1 23 [.slice A n c]::(JR []++F)))
  (hrB:∀h',BC B h0 h'→Rd h' A (b.map AN)) (hl:b.length=n) (hn:n≤1099511627776)
  (hround:∀ (s:List AW) (x:AW) (r:List AW) (F':List AE) (h:AA),BC B h0 h→s++x::r=D7 b lv→St B h h (JR s++F')→FJ Tryz.prog y [.agg (Ah x).toArray] h fun u h'=>u= .bool true∧St B h h' (JR (s++[x])++F')):
  AG Tryz.prog 241 [.func (.yield y) #[] #[],.pointer (some ⟨p1,0,none⟩),.pointer (some ⟨p2,0,none⟩)] h0 fun _ h'=>St B h0 h' (JR (D7 b lv)++F):=by
 refine Bg Tryz.func241 rfl fun _=> ?_
 have st:=st0
 refine AC ?_
 refine GK (Ck [(2,.grow),(4,.grow)]) [0,1,3,5,6,2,4,7,8,9] (by kernel_rfl) (by kernel_rfl) rfl ?_
 refine xc st 1 0 ?_
 refine xc st 1 0 ?_
 refine xc st 0 0 ?_
 refine xc st 0 0 ?_
 refine AC ?_
 refine BW (CT (bS (b:=b)) rfl (by kernel_rfl)) rfl rfl rfl (fun _ _ ⟨_,_,h⟩=>h.low) ?_
 rintro _ hp1 ⟨pf,rfl,st2⟩
 replace st:=st.join st2
 simp only [z5,z4]at st
 clear st2
 refine BW (CT (fe lv _) rfl (by kernel_rfl)) rfl rfl rfl (fun _ _ h=>h.2▸BC.refl _ _) ?_
 rintro _ _ ⟨rfl,rfl⟩
 refine xa (AZ (ps:=[(0,.slice A n c),(1,.pointer (some ⟨pf,0,none⟩)),(2,nV (Dq lv)),(3,.bool (decide (2≤lv)))]) (cs:=(Jw A n c pf lv).toArray) rfl rfl) ?_
 refine BW (Bv (cs:=Jw A n c pf lv) rfl rfl) rfl rfl rfl (fun _ _ ⟨_,_,e⟩=>e.1) ?_
 rintro _ hp ⟨ps,rfl,hnew⟩
 replace st:=st.new hnew
 refine AO ?_
 refine BD (fun s=>n-s.1) (fun s=>[(0,.func (.yield y) #[] #[]),(1,.pointer (some ⟨p1,0,none⟩)),(2,.pointer (some ⟨p2,0,none⟩)),(4,.pointer (some ⟨ps,0,none⟩)),(5,nV s.1)])
  (fun (s:Nat×Nat×List AW) hp=>s.1≤n∧s.2.1≤n∧s.2.2++Du b lv (b.length-s.1) s.1=D7 b lv∧St B h0 hp (pt ps 334 (Jw A n c pf lv)::ED pf A n c s.2.1 b::pt p2 3 [.int .i64 lv]::pt p1 23 [.slice A n c]::(JR s.2.2++F)))
  (0,0,[]) (CP rfl rfl rfl rfl rfl) ⟨Nat.zero_le _,Nat.zero_le _,rfl,st⟩ ?_
 clear st st0
 rintro ⟨a,u,s⟩ hp ⟨ha,hu,hs,st⟩
 simp only at ha hu hs st ⊢
 refine AJ ?_
 refine xc st 3 0 ?_
 refine AF ?_
 refine AK rfl (fun h=> ?_) (fun h=> ?_)
 ·have hal:a<b.length:=by omega
  rw [e9 hal]at hs
  obtain ⟨hx1,hx2,hx3,hx4,_⟩:=OE (lv:=lv) hal
  have hxs:=AW.size_le hx1
  refine AL ?_
  refine xk (fm st.here (fun h' hh=>hrB h' (st.low.trans hh)) hl hn hu (by omega)) rfl ?_
  rintro _ hp2 ⟨rfl,u2,hu2,st2⟩
  replace st:=st.trans st2
  clear st2
  obtain ⟨x,hx⟩:∃x,D8 b lv a=x:=⟨_,rfl⟩
  rw [hx]at hs hx1 hx2 hx3 hx4 hxs ⊢
  refine xn st fun p6 hp st=> ?_
  refine xw (us:=Ah x) st 0 (Co x) fun hp st=> ?_
  simp only [z0]at st
  have st3:=st.perm (zb [_,_,_,_,_] (JR s) F)
  refine AH ?_
  refine xa (Ai (vs:=Ah x) (st.cells 0 rfl) rfl rfl rfl rfl) ?_
  refine Ia (Io rfl (hround s x _ _ _ st3.low hs st3.here) rfl) rfl rfl rfl ?_
  rintro _ hp3 ⟨rfl,st4⟩
  replace st:=(st3.trans st4).perm (zb (JR (s++[x])) [pt p6 290 (Ah x),pt ps 334 (Jw A n c pf lv),ED pf A n c u2 b,pt p2 3 [.int .i64 lv],pt p1 23 [.slice A n c]] F)
  refine AO ?_
  refine xc st 0 1 ?_
  refine AC ?_
  refine AT (nV x.size) (congrArg (Value.int .i64) (by omega)) (AJ ?_)
  exact Ad (a+x.size,u2,s++[x]) (CP rfl rfl rfl rfl rfl) ⟨by simp only;omega,hu2,by simp only;rw [z8];exact hs,st.tail⟩ (by simp only;omega)
 ·refine AB ?_
  rw [e8 (by omega),List.append_nil]at hs
  rw [←hs]
  exact st.tail.tail.tail.tail
theorem Xr {B gf:Nat} {lb:List Value} {P:List AW} {F:List AE} {h0:AA} (st0:St B h0 h0 F) (hc:EB Tryz.prog gf=true) (hP:P.length≤1048576)
  (hiter:∀ (JR:List AW→List AE) (G:List AE) (y:Nat) (h:AA),BC B h0 h→St B h h (F++(JR []++G))→
   (∀ (s:List AW) (x:AW) (r:List AW) (F':List AE) (h':AA),BC B h h'→s++x::r=P→St B h' h' (JR s++F')→FJ Tryz.prog y [.agg (Ah x).toArray] h' fun u h''=>u= .bool true∧St B h' h'' (JR (s++[x])++F'))→
   AG Tryz.prog gf (.func (.yield y) #[] #[]::lb) h fun _ h'=>St B h h' (JR P++G)):
  AG Tryz.prog 240 [.slice none 0 0,.func (.func gf) #[] lb.toArray] h0 fun v h'=>St B h0 h' [Bn.row 290 3 v (P.flatMap Ah)]:=by
 refine Ac Tryz.func240 rfl fun _=>AB ?_
 refine xv (Bv rfl rfl) ?_
 rintro _ hp ⟨p,rfl,hnew⟩
 have st:=(st0.new hnew).nilrow 290 3
 refine AP ?_
 refine GL st rfl rfl hc fun fn tmps L y d hp1 hL hok hx1 st1=> ?_
 obtain ⟨JR,hJR⟩:∃JR:List AW→List AE,JR=fun s=>[BG y (L .ready none),Cb fun v=>CD (Bn.row 290 3 v (s.flatMap Ah)) (pt p 238 [v])]:=⟨_,rfl⟩
 have st2:St B h0 hp1 (F++(JR []++[BG d (.deferred (some []))])):=by
  have s3:St B h0 hp1 (Bn.row 290 3 (.slice none 0 0) []::pt p 238 [.slice none 0 0]::BG y (L .ready none)::BG d (.deferred (some []))::F):=
   st1.perm (zb [BG y (L .ready none),BG d (.deferred (some []))] [Bn.row 290 3 (.slice none 0 0) [],pt p 238 [.slice none 0 0]] F)
  have s4:St B h0 hp1 ((Cb fun v=>CD (Bn.row 290 3 v (([]:List AW).flatMap Ah)) (pt p 238 [v]))::BG y (L .ready none)::BG d (.deferred (some []))::F):=St.ex.2 ⟨Value.slice none 0 0,St.star.2 s3⟩
  have s5:=s4.perm ((List.Perm.swap _ _ _).trans (List.perm_append_comm (l₁:=[BG y (L .ready none),Cb fun v=>CD (Bn.row 290 3 v (([]:List AW).flatMap Ah)) (pt p 238 [v]),BG d (.deferred (some []))]) (l₂:=F)))
  rw [hJR];exact s5
 refine AG.mono (hiter JR [BG d (.deferred (some []))] y hp1 st2.low st2.here ?_) ?_
 ·intro s u0 r F' h hlow hsP st3
  subst hL
  subst hJR
  simp only [z5,z4]at st3
  have hsl:s.length<P.length:=by rw [←hsP];simp
  obtain ⟨v9,st3⟩:=St.ex.1 (st3.perm (List.Perm.swap _ _ _))
  have st:=(St.star.1 st3)
  refine GZ (st.obj_at 2 rfl) hok rfl rfl fun w0 hw0=> ?_
  simp only [E2]
  refine AC ?_
  refine xv (CK rfl) ?_
  rintro _ hp ⟨p5,rfl,hnew⟩
  replace st:=st.new hnew
  refine xw (us:=Ah u0) st 0 (Co u0) fun hp st=> ?_
  simp only [z0]at st
  refine AC ?_
  refine GJ (st.obj_at 3 rfl) ?_
  replace st:=st.loop 3 .busy none rfl
  simp only [z0,z1]at st
  refine AB ?_
  refine xc st 2 0 ?_
  refine xa (Ai (vs:=Ah u0) (st.cells 0 rfl) rfl rfl rfl rfl) ?_
  refine xv (D4 (us:=Ah u0) rfl rfl rfl rfl (by kernel_rfl)) ?_
  rintro _ hp ⟨A,rfl,hx,hrd⟩
  replace st:=st.ext hx
  refine BN (BY st 1 rfl (hrd) (rfl) (Co u0) (by rw [EO _ 3 (fun _=>rfl)];simp [Ah];omega) rfl rfl rfl rfl rfl rfl rfl) rfl rfl rfl fun v hp st=> ?_
  simp only [z0,z1]at st
  have e2:s.flatMap Ah++Ah u0=(s++[u0]).flatMap Ah:=by rw [List.flatMap_append];simp
  rw [e2]at st
  obtain ⟨A6,n6,c6,rfl,_⟩:=st.row 1 rfl
  refine xj st 2 fun hp st=> ?_
  simp only [z0,z1]at st
  refine AB ?_
  refine FL (st.obj_at 3 rfl) ⟨rfl,?_⟩
  replace st:=st.loop 3 .ready none rfl
  simp only [z0,z1]at st
  have s6:=(St.ex.2 ⟨_,St.star.2 st.tail⟩:St B h _ ((Cb fun v=>CD (Bn.row 290 3 v ((s++[u0]).flatMap Ah)) (pt p 238 [v]))::_))
  exact s6.perm (List.Perm.swap _ _ _)
 rintro _ h' st3
 subst hJR
 simp only [z5,z4]at st3
 refine .inl ⟨_,st2.trans st3,fun hp3 st4=> ?_⟩
 obtain ⟨v9,st4⟩:=St.ex.1 (st4.perm (List.Perm.swap _ _ _))
 have st:=St.star.1 st4
 refine AF ?_
 refine xc st 1 0 ?_
 refine AB ?_
 refine Gg (d:=d) (.cons (.tmp rfl) .nil) ?_ (st.obj_at 3 rfl)
 replace st:=st.put 3 (.deferred none) rfl
 exact st.keep 1
theorem Yw {B gf:Nat} {lb:List Value} {P:List AW} {F:List AE} {h0:AA} (st0:St B h0 h0 F) (hc:EB Tryz.prog gf=true) (hP:P.length≤1048576)
  (hiter:∀ (JR:List AW→List AE) (G:List AE) (y:Nat) (h:AA),BC B h0 h→St B h h (F++(JR []++G))→
   (∀ (s:List AW) (x:AW) (r:List AW) (F':List AE) (h':AA),BC B h h'→s++x::r=P→St B h' h' (JR s++F')→FJ Tryz.prog y [.agg (Ah x).toArray] h' fun u h''=>u= .bool true∧St B h' h'' (JR (s++[x])++F'))→
   AG Tryz.prog gf (.func (.yield y) #[] #[]::lb) h fun _ h'=>St B h h' (JR P++G)):
  AG Tryz.prog 206 [.func (.func gf) #[] lb.toArray] h0 fun v h'=>St B h0 h' [Bn.row 290 3 v (P.flatMap Ah)]:=by
 refine BE Tryz.func206 rfl fun _=>AO ?_
 refine xk (Xr st0 hc hP hiter) rfl ?_
 rintro v hp h
 refine AF ?_
 exact h
theorem fq {n c:Nat} {lv:Int} {A:Option Addr} {b:List UInt8} {h0:AA} (hr:Rd h0 A (b.map AN)) (hl:b.length=n) (hn:n≤1048576):
  AG Tryz.prog 154 [.slice A n c,.int .i64 lv] h0 fun v h'=>St h0.size h0 h' [row 290 3 v ((D7 b lv).flatMap Ah)]:=by
 have hpl:(D7 b lv).length≤b.length:=by
  obtain ⟨_,_,_,h4,_⟩:=Qk (b:=b) (lv:=lv) b.length 0 (Nat.zero_le _) (by omega)
  unfold D7;omega
 refine Ac Tryz.func154 rfl fun _=>AP ?_
 refine xk (fg) rfl ?_
 rintro _ hp ⟨p1,p2,rfl,st⟩
 refine xk (Yw (P:=D7 b lv) (lb:=[.pointer (some ⟨p1,0,none⟩),.pointer (some ⟨p2,0,none⟩)]) st.here (by kernel_rfl) (by omega) (fun JR G y h hlow s hround=>ff JR s (fun h' hh=>hr.ext ((st.low.trans hlow).trans hh)) hl (by omega) hround)) rfl ?_
 rintro v hp2 st2
 refine AF ?_
 exact st.trans st2
end Go.Bn
end

section
namespace Go.Bn
open Go Proofs
theorem W0 {c:BQ}:0≤(E4 c).1∧(E4 c).1<65536:=by
 unfold E4
 split
 ·rename_i v hv;have:=gK hv;simp only;omega
 ·simp
theorem bE (a b:BQ) (m:Bool):ID ⟨a,b,m⟩=if (E4 ⟨a.num-257,a.bits,a.ext⟩).2=true∧(E4 b).2=true∧(AW.mk 0 ((E4 ⟨a.num-257,a.bits,a.ext⟩).1+3) ((E4 b).1+1)).right then (AW.mk 0 ((E4 ⟨a.num-257,a.bits,a.ext⟩).1+3) ((E4 b).1+1),true)else (AW.nil,false):=by
 unfold ID E4
 simp only
 cases hx:Ek ⟨a.num-257,a.bits,a.ext⟩with
 | none=>simp
 | some x=>
  cases hy:Ek b with
  | none=>simp
  | some y=>simp
theorem ei {a b:BQ} {m:Bool} (ha:0≤a.ext∧a.ext<4294967296) (hb:0≤b.ext∧b.ext<4294967296) (hn:257≤a.num∧a.num<273) (h0:AA):AG Tryz.prog 288 [.agg #[.int .i64 a.num,.int .i64 a.bits,.int .u32 a.ext,.int .i64 b.num,.int .i64 b.bits,.int .u32 b.ext,.bool m]] h0 fun r h'=>r=Al [.agg (Ah (ID ⟨a,b,m⟩).1).toArray,.bool (ID ⟨a,b,m⟩).2]∧AV h0 h':=by
 rw [bE]
 have bx:=W0 (c:=⟨a.num-257,a.bits,a.ext⟩)
 have by_:=W0 (c:=b)
 refine BE Tryz.func288 rfl fun _=> ?_
 have st:=St.start h0
 refine AB ?_
 refine xv (Bv rfl rfl) ?_
 rintro _ hp ⟨p,rfl,hnew⟩
 have st:=st.new hnew
 refine xn st fun pp1 hp st=>AH ?_
 refine xa (Ai (st.part 1 0 [] (Bc a) (Bc b++[.bool m]) rfl rfl) rfl rfl rfl rfl) ?_
 refine xn st fun pp2 hp st=> ?_
 refine xw (us:=Bc a) st 0 (GM _) fun hp st=> ?_
 simp only [z0,z1]at st
 refine AJ ?_
 refine xc st 0 0 ?_
 refine xa (EU rfl rfl (by simp only [AI];omega)) (AC ?_)
 refine xj st 0 fun hp st=> ?_
 simp only [z0,z1]at st
 refine AF ?_
 refine xa (Ai (vs:=Bc ⟨a.num-257,a.bits,a.ext⟩) (st.cells 0 rfl) rfl rfl rfl rfl) ?_
 refine xk (WZ (c:=⟨a.num-257,a.bits,a.ext⟩) ha _) rfl ?_
 rintro _ hp ⟨rfl,hx1⟩
 replace st:=st.ext hx1
 refine Aj ?_
 refine xa (Ai (st.part 2 3 (Bc a) (Bc b) [.bool m] rfl rfl) rfl rfl rfl rfl) ?_
 refine xk (WZ (c:=b) hb _) rfl ?_
 rintro _ hp ⟨rfl,hx2⟩
 replace st:=st.ext hx2
 generalize E4 ⟨a.num-257,a.bits,a.ext⟩=X at*
 generalize E4 b=Y at*
 refine By ?_
 refine xa (AZ (ps:=[(1,.int .i64 (X.1+3)),(2,.int .i64 (Y.1+1))]) (cs:=(Ah ⟨0,X.1+3,Y.1+1⟩).toArray) rfl rfl) ?_
 generalize AW.mk 0 (X.1+3) (Y.1+1)=T at*
 refine xn st fun pp3 hp st=> ?_
 by_cases hX:X.2=true
 ·have st:=st
  refine xw (us:=Ah T) st 0 (Co _) fun hp st=> ?_
  simp only [z0,z1]at st
  refine AH ?_
  by_cases hY:Y.2=true
  ·have st:=st
   refine xa (Bm rfl) ?_
   refine AT (.bool false) (by rw [hX];rfl) (AB ?_)
   refine xa (Bm rfl) ?_
   refine AT (.bool false) (by rw [hY];rfl) (AB ?_)
   refine xa (Ai (st.cells 0 rfl) rfl rfl rfl rfl) ?_
   refine xk (Qy T _) rfl ?_
   rintro _ hp ⟨rfl,hx3⟩
   replace st:=st.ext hx3
   refine AF ?_
   refine AK rfl (fun h=> ?_) (fun h=> ?_)
   ·refine AB ?_
    refine xa (AZ (ps:=[]) (cs:=(Ah AW.nil).toArray) rfl rfl) ?_
    refine xw (us:=Ah AW.nil) st 2 (Co _) fun hp st=> ?_
    simp only [z0,z1]at st
    refine AB ?_
    refine Af (.cons (Ax (vs:=Ah AW.nil) rfl rfl rfl (st.cells 2 rfl)) (.cons (.tmp rfl) .nil)) ?_
    rw [if_neg (fun hh=>h hh.2.2)]
    exact ⟨rfl,st.low⟩
   ·refine AF ?_
    refine xa (Ai (st.cells 0 rfl) rfl rfl rfl rfl) ?_
    refine xw (us:=Ah T) st 2 (Co _) fun hp st=> ?_
    simp only [z0,z1]at st
    refine AB ?_
    refine Af (.cons (Ax (vs:=Ah T) rfl rfl rfl (st.cells 2 rfl)) (.cons (.tmp rfl) .nil)) ?_
    rw [if_pos ⟨hX,hY,Decidable.not_not.1 h⟩]
    exact ⟨rfl,st.low⟩
  ·have hY':Y.2=false:=by simpa using hY
   refine xa (Bm rfl) ?_
   refine AT (.bool false) (by rw [hX];rfl) (AB ?_)
   refine xa (Bm rfl) ?_
   refine AT (.bool true) (by rw [hY'];rfl) (BP ?_)
   refine xa (AZ (ps:=[]) (cs:=(Ah AW.nil).toArray) rfl rfl) ?_
   refine xw (us:=Ah AW.nil) st 2 (Co _) fun hp st=> ?_
   simp only [z0,z1]at st
   refine AB ?_
   refine Af (.cons (Ax (vs:=Ah AW.nil) rfl rfl rfl (st.cells 2 rfl)) (.cons (.tmp rfl) .nil)) ?_
   rw [if_neg (fun hh=>hY hh.2.1)]
   exact ⟨rfl,st.low⟩
 ·have hX':X.2=false:=by simpa using hX
  refine xw (us:=Ah T) st 0 (Co _) fun hp st=> ?_
  simp only [z0,z1]at st
  refine AH ?_
  refine xa (Bm rfl) ?_
  refine AT (.bool true) (by rw [hX'];rfl) (B3 ?_)
  refine xa (AZ (ps:=[]) (cs:=(Ah AW.nil).toArray) rfl rfl) ?_
  refine xw (us:=Ah AW.nil) st 2 (Co _) fun hp st=> ?_
  simp only [z0,z1]at st
  refine AB ?_
  refine Af (.cons (Ax (vs:=Ah AW.nil) rfl rfl rfl (st.cells 2 rfl)) (.cons (.tmp rfl) .nil)) ?_
  rw [if_neg (fun hh=>hX hh.1)]
  exact ⟨rfl,st.low⟩
theorem aG {a b:BQ} (h:257≤a.num∧a.num<273):DP ⟨a,b,true⟩=ID ⟨a,b,true⟩:=by
 unfold DP;rw [if_pos rfl,if_pos h]
theorem TU {a b:BQ} (h:¬ (257≤a.num∧a.num<273)):DP ⟨a,b,true⟩=(AW.nil,false):=by
 unfold DP;rw [if_pos rfl,if_neg h]
theorem aF {a b:BQ} (h:0≤a.num∧a.num<256) (e:Sy.mk a b false=⟨⟨a.num,0,0⟩,BQ.nil,false⟩):DP ⟨a,b,false⟩=(⟨a.num,0,0⟩,true):=by
 unfold DP;rw [if_neg (by simp),if_pos ⟨h.1,h.2,e⟩]
theorem KM {a b:BQ} (h:¬ (0≤a.num∧a.num<256∧Sy.mk a b false=⟨⟨a.num,0,0⟩,BQ.nil,false⟩)):DP ⟨a,b,false⟩=(AW.nil,false):=by
 unfold DP;rw [if_neg (by simp),if_neg h]
theorem eh {a b:BQ} (ha:0≤a.ext∧a.ext<4294967296) (hb:0≤b.ext∧b.ext<4294967296) (h0:AA):AG Tryz.prog 258 [.agg #[.int .i64 a.num,.int .i64 a.bits,.int .u32 a.ext,.int .i64 b.num,.int .i64 b.bits,.int .u32 b.ext,.bool true]] h0 fun r h'=>r=Al [.agg (Ah (DP ⟨a,b,true⟩).1).toArray,.bool (DP ⟨a,b,true⟩).2]∧AV h0 h':=by
 refine BE Tryz.func258 rfl fun _=> ?_
 have st:=St.start h0
 refine AB ?_
 refine xv (Bv rfl rfl) ?_
 rintro _ hp ⟨p,rfl,hnew⟩
 have st:=st.new hnew
 refine xn st fun pp1 hp st=>AL ?_
 refine xc st 1 6 ?_
 refine AF ?_
 refine xc st 1 0 ?_
 refine AF ?_
 refine Am 13 rfl (fun h=> ?_) (fun h=> ?_)
 ·refine AB ?_
  refine xc st 1 0 ?_
  refine AF ?_
  refine AK rfl (fun h=> ?_) (fun h=> ?_)
  ·rw [aG (by omega)]
   refine AB ?_
   refine xa (Ai (vs:=CR ⟨a,b,true⟩) (st.cells 1 rfl) rfl rfl rfl rfl) ?_
   refine xk (ei (a:=a) (b:=b) (m:=true) ha hb (by omega) _) rfl ?_
   rintro _ hp ⟨rfl,hx1⟩
   replace st:=st.ext hx1
   generalize ID ⟨a,b,true⟩=M at*
   refine AB ?_
   refine xw (us:=Ah M.1) st 0 (Co _) fun hp st=> ?_
   simp only [z0,z1]at st
   refine AB ?_
   refine Af (.cons (Ax (vs:=Ah M.1) rfl rfl rfl (st.cells 0 rfl)) (.cons (.tmp rfl) .nil)) ?_
   exact ⟨rfl,st.low⟩
  ·refine AH ?_
   refine xc st 1 0 ?_
   refine AL ?_
   refine xc st 1 6 ?_
   refine Fv ?_
   refine xa (AZ (ps:=[]) (cs:=(Ah AW.nil).toArray) rfl rfl) ?_
   refine xw (us:=Ah AW.nil) st 0 (Co _) fun hp st=> ?_
   simp only [z0,z1]at st
   refine AB ?_
   refine Af (.cons (Ax (vs:=Ah AW.nil) rfl rfl rfl (st.cells 0 rfl)) (.cons (.tmp rfl) .nil)) ?_
   rw [TU (by omega)]
   exact ⟨rfl,st.low⟩
 ·refine By ?_
  refine xc st 1 0 ?_
  refine AL ?_
  refine xc st 1 6 ?_
  refine Fv ?_
  refine xa (AZ (ps:=[]) (cs:=(Ah AW.nil).toArray) rfl rfl) ?_
  refine xw (us:=Ah AW.nil) st 0 (Co _) fun hp st=> ?_
  simp only [z0,z1]at st
  refine AB ?_
  refine Af (.cons (Ax (vs:=Ah AW.nil) rfl rfl rfl (st.cells 0 rfl)) (.cons (.tmp rfl) .nil)) ?_
  rw [TU (by omega)]
  exact ⟨rfl,st.low⟩
theorem eg {a b:BQ} (h0:AA):AG Tryz.prog 258 [.agg #[.int .i64 a.num,.int .i64 a.bits,.int .u32 a.ext,.int .i64 b.num,.int .i64 b.bits,.int .u32 b.ext,.bool false]] h0 fun r h'=>r=Al [.agg (Ah (DP ⟨a,b,false⟩).1).toArray,.bool (DP ⟨a,b,false⟩).2]∧AV h0 h':=by
 refine BE Tryz.func258 rfl fun _=> ?_
 have st:=St.start h0
 refine AB ?_
 refine xv (Bv rfl rfl) ?_
 rintro _ hp ⟨p,rfl,hnew⟩
 have st:=st.new hnew
 refine xn st fun pp1 hp st=>AL ?_
 refine xc st 1 6 ?_
 refine Fv ?_
 refine xc st 1 0 ?_
 refine AL ?_
 refine xc st 1 6 ?_
 refine AH ?_
 refine Am 32 rfl (fun h=> ?_) (fun h=> ?_)
 ·refine Bq ?_
  refine xa (AZ (ps:=[]) (cs:=(Ah AW.nil).toArray) rfl rfl) ?_
  refine xw (us:=Ah AW.nil) st 0 (Co _) fun hp st=> ?_
  simp only [z0,z1]at st
  refine AB ?_
  refine Af (.cons (Ax (vs:=Ah AW.nil) rfl rfl rfl (st.cells 0 rfl)) (.cons (.tmp rfl) .nil)) ?_
  first
   | rw [KM (fun hh=>by omega)]
   | rw [KM (fun hh=>h hh.2.2)]
  exact ⟨rfl,st.low⟩
 ·refine AJ ?_
  refine Am 36 rfl (fun h=> ?_) (fun h=> ?_)
  ·refine BP ?_
   refine xa (AZ (ps:=[]) (cs:=(Ah AW.nil).toArray) rfl rfl) ?_
   refine xw (us:=Ah AW.nil) st 0 (Co _) fun hp st=> ?_
   simp only [z0,z1]at st
   refine AB ?_
   refine Af (.cons (Ax (vs:=Ah AW.nil) rfl rfl rfl (st.cells 0 rfl)) (.cons (.tmp rfl) .nil)) ?_
   first
    | rw [KM (fun hh=>by omega)]
    | rw [KM (fun hh=>h hh.2.2)]
   exact ⟨rfl,st.low⟩
  ·refine xa (Ai (vs:=CR ⟨a,b,false⟩) (st.cells 1 rfl) rfl rfl rfl rfl) (AC ?_)
   refine xa (AZ (ps:=[(0,.int .i64 a.num)]) (cs:=(Bc ⟨a.num,0,0⟩).toArray) rfl rfl) ?_
   refine xa (AZ (ps:=[(0,.agg (Bc ⟨a.num,0,0⟩).toArray)]) (cs:=(CR ⟨⟨a.num,0,0⟩,BQ.nil,false⟩).toArray) rfl rfl) ?_
   refine xa (UX rfl rfl (UJ (ks:=[.i .i64,.i .i64,.i .u32,.i .i64,.i .i64,.i .u32,.b]) (by kernel_rfl) (by kernel_rfl) rfl rfl) (by kernel_rfl)) ?_
   refine AT (.bool (decide (Sy.mk a b false≠⟨⟨a.num,0,0⟩,BQ.nil,false⟩))) (congrArg Value.bool ?_) ?_
   ·rw [ZT];simp
   refine AB ?_
   refine AK rfl (fun h=> ?_) (fun h=> ?_)
   ·refine AB ?_
    refine xa (AZ (ps:=[]) (cs:=(Ah AW.nil).toArray) rfl rfl) ?_
    refine xw (us:=Ah AW.nil) st 0 (Co _) fun hp st=> ?_
    simp only [z0,z1]at st
    refine AB ?_
    refine Af (.cons (Ax (vs:=Ah AW.nil) rfl rfl rfl (st.cells 0 rfl)) (.cons (.tmp rfl) .nil)) ?_
    first
     | rw [KM (fun hh=>by omega)]
     | rw [KM (fun hh=>h hh.2.2)]
    exact ⟨rfl,st.low⟩
   ·refine AJ ?_
    refine xa (Bj rfl rfl (by simp only [AI];omega)) ?_
    refine xa (AZ (ps:=[(0,.int .u8 a.num)]) (cs:=(Ah ⟨a.num,0,0⟩).toArray) rfl rfl) ?_
    refine xw (us:=Ah ⟨a.num,0,0⟩) st 0 (Co _) fun hp st=> ?_
    simp only [z0,z1]at st
    refine AB ?_
    refine Af (.cons (Ax (vs:=Ah ⟨a.num,0,0⟩) rfl rfl rfl (st.cells 0 rfl)) (.cons (.tmp rfl) .nil)) ?_
    rw [aF (by omega) (Decidable.not_not.1 h)]
    exact ⟨rfl,st.low⟩
theorem WC {r:Sy} (ha:0≤r.a.ext∧r.a.ext<4294967296) (hb:0≤r.b.ext∧r.b.ext<4294967296) (h0:AA):AG Tryz.prog 258 [.agg (CR r).toArray] h0 fun v h'=>v=Al [.agg (Ah (DP r).1).toArray,.bool (DP r).2]∧AV h0 h':=by
 obtain ⟨a,b,m⟩:=r
 cases m with
 | true=>exact eh ha hb h0
 | false=>exact eg h0
end Go.Bn
end

section
namespace Go.Bn
open Go Proofs
theorem St.keepF2 {B:Nat} {h0 hp:AA} {r1 r2 r3:AE} {F:List AE} (s:St B h0 hp (r1::r2::r3::F)):St B h0 hp (r1::r2::F):=
 (St.reF [r1,r2,r3] 3 s [2,0,1] (by decide)).tail
theorem Rq {B p q m c a fr:Nat} {A:Option Addr} {l:List UInt8} {ls:List Nat} {F:List AE} {h0:AA} (st0:St B h0 h0 (Cn q A m c a::CO p ls::F)) (hok:Bi ls) (hrB:∀h',BC B h0 h'→Rd h' A (l.map AN)) (hl:l.length=m) (hm:m≤1073741824) (ha:a≤8*m) (hfr:ls.length≤fr+30) (hfr2:fr≤300):
  AG Tryz.prog 257 [.pointer (some ⟨q,0,none⟩),.pointer (some ⟨p,0,none⟩),nV fr] h0
   fun v h'=>v=Al [.agg (Bc (CA ls fr (AR l) a).1).toArray,nV (CA ls fr (AR l) a).2.2]∧St B h0 h' (Cn q A m c (CA ls fr (AR l) a).2.1::CO p ls::F):=by
 have hbl:=Gk l
 have hC:CA ls fr (AR l) a=_:=rfl
 unfold CA at hC
 have hsm:=Qw hok ((AR l).drop a)
 have hle:=Qv ls ((AR l).drop a)
 have hsy:=OC hok (bs:=(AR l).drop a)
 rw [z7,hbl,hl]at hle
 obtain ⟨T,hT⟩:∃T,BJ ls ((AR l).drop a)=T:=⟨_,rfl⟩
 rw [hT]at hC hsm hle hsy
 obtain ⟨C,hCe⟩:∃C,CA ls fr (AR l) a=C:=⟨_,rfl⟩
 rw [show CA ls fr (AR l) a=C from hCe]
 unfold CA at hCe
 rw [hT]at hCe
 clear hC
 rw [hbl,hl]at hCe
 have hok2:=hok.2.1
 refine Bg Tryz.func257 rfl fun _=> ?_
 have st:=st0
 refine AB ?_
 refine xn st fun p6 hp st=> ?_
 replace st:St B h0 hp ([pt p6 283 (Bc BQ.nil),Cn q A m c a,CO p ls]++F):=st
 replace st:=St.reF _ 3 st [1,2,0] (by decide)
 simp only [zj,List.map_nil,An,z5,z4]at st
 refine AL ?_
 refine xk (SN st.here hok (hrB _ st.low) hl (by omega) ha) rfl ?_
 rintro _ hp ⟨rfl,st2⟩
 rw [hT]at st2 ⊢
 replace st:=st.trans st2
 clear st2
 refine By ?_
 refine Am 23 rfl (fun h=> ?_) (fun h=> ?_)
 ·rw [if_pos (by omega)]at hCe
  subst hCe
  refine Aj ?_
  refine xa (AZ (ps:=[(0,nV T.1)]) (cs:=(Bc ⟨T.1,0,0⟩).toArray) rfl rfl) (AC ?_)
  refine xw (us:=Bc ⟨T.1,0,0⟩) st 2 (GM _) fun hp st=> ?_
  simp only [z0,z1]at st
  refine AB ?_
  refine Af (.cons (Ax (vs:=Bc _) rfl rfl rfl (st.cells 2 rfl)) (.cons (.tmp rfl) .nil)) ?_
  refine ⟨rfl,?_⟩
  exact St.keepF2 st
 ·refine AH ?_
  refine AK rfl (fun h=> ?_) (fun h=> ?_)
  ·rw [if_pos (by omega)]at hCe
   subst hCe
   refine AF ?_
   refine xa (AZ (ps:=[(0,nV T.1)]) (cs:=(Bc ⟨T.1,0,0⟩).toArray) rfl rfl) (AC ?_)
   refine xw (us:=Bc ⟨T.1,0,0⟩) st 2 (GM _) fun hp st=> ?_
   simp only [z0,z1]at st
   refine AB ?_
   refine Af (.cons (Ax (vs:=Bc _) rfl rfl rfl (st.cells 2 rfl)) (.cons (.tmp rfl) .nil)) ?_
   refine ⟨rfl,?_⟩
   exact St.keepF2 st
  ·have hT0:T.2.2=0:=by omega
   have hTl:T.1<ls.length:=(hsy hT0).1
   have hbc:BO (T.1-fr)≤13:=by unfold BO;split <;> omega
   rw [if_neg (by omega)]at hCe
   have hwd:wd 32 ((BO (T.1-fr):Nat):Int)=BO (T.1-fr):=Kn (by omega)
   refine AL ?_
   refine xk (Vx (i:=T.1-fr) (by omega) (by omega) _) rfl ?_
   rintro _ _ ⟨rfl,rfl⟩
   refine By ?_
   refine xk (Jr (k:=((BO (T.1-fr):Nat):Int)) st.here (hrB _ st.low) hl (by omega) (by omega)) rfl ?_
   rintro _ hp ⟨rfl,st2⟩
   rw [hwd]at st2 ⊢
   replace st:=st.trans st2
   clear st2
   refine By ?_
   refine AK rfl (fun h=> ?_) (fun h=> ?_)
   ·have hn:¬BO (T.1-fr)≤8*m - (a+T.2.1):=by simpa using h
    rw [if_neg hn]at st
    rw [if_pos (by omega)]at hCe
    subst hCe
    refine AB ?_
    refine xa (AZ (ps:=[]) (cs:=(Bc BQ.nil).toArray) rfl rfl) ?_
    refine xw (us:=Bc BQ.nil) st 2 (GM _) fun hp st=> ?_
    simp only [z0,z1]at st
    refine AB ?_
    refine Af (.cons (Ax (vs:=Bc _) rfl rfl rfl (st.cells 2 rfl)) (.cons (.tmp rfl) .nil)) ?_
    exact ⟨rfl,St.keepF2 st⟩
   ·have hn:BO (T.1-fr)≤8*m - (a+T.2.1):=by simpa using h
    rw [if_pos hn]at st
    rw [if_neg (by omega)]at hCe
    subst hCe
    have hnl:=Il (AR l) (a+T.2.1) (BO (T.1-fr))
    refine AL ?_
    refine xa (AZ (ps:=[(0,nV T.1),(1,nV (BO (T.1-fr))),(2,.int .u32 ((CB (AR l) (a+T.2.1) (BO (T.1-fr)):Nat):Int))]) (cs:=(Bc ⟨T.1,BO (T.1-fr),(CB (AR l) (a+T.2.1) (BO (T.1-fr)):Nat)⟩).toArray) (by rw [if_pos hn];rfl) rfl) ?_
    refine xw (us:=Bc ⟨T.1,BO (T.1-fr),(CB (AR l) (a+T.2.1) (BO (T.1-fr)):Nat)⟩) st 2 (GM _) fun hp st=> ?_
    simp only [z0,z1]at st
    refine AB ?_
    refine Af (.cons (Ax (vs:=Bc _) rfl rfl rfl (st.cells 2 rfl)) (.cons (.tmp rfl) .nil)) ?_
    exact ⟨rfl,St.keepF2 st⟩
theorem YY {B p1 p2 q m c a:Nat} {A:Option Addr} {l:List UInt8} {la lb:List Nat} {F:List AE} {h0:AA} (st0:St B h0 h0 (Cn q A m c a::CO p1 la::CO p2 lb::F)) (oka:Bi la) (okb:Bi lb) (na:la.length=273) (nb:lb.length=30) (hrB:∀h',BC B h0 h'→Rd h' A (l.map AN)) (hl:l.length=m) (hm:m≤1073741824) (ha:a≤8*m):
  AG Tryz.prog 228 [.pointer (some ⟨q,0,none⟩),.pointer (some ⟨p1,0,none⟩),.pointer (some ⟨p2,0,none⟩)] h0
   fun v h'=>v=Al [.agg (Ah (Cy la lb (AR l) a).1).toArray,.bool (!(Cy la lb (AR l) a).2.2.1),nV (Cy la lb (AR l) a).2.2.2]∧St B h0 h' (Cn q A m c (Cy la lb (AR l) a).2.1::CO p1 la::CO p2 lb::F):=by
 have hbl:=Gk l
 obtain ⟨N,hN⟩:∃N,Cy la lb (AR l) a=N:=⟨_,rfl⟩
 have hC1:=SC (fr:=257) (bs:=AR l) (a:=a) oka (by omega) (by omega)
 have hA1:=Oo (fr:=257) (bs:=AR l) (a:=a) oka (by omega)
 rw [hN]
 unfold Cy at hN
 obtain ⟨C,hC⟩:∃C,CA la 257 (AR l) a=C:=⟨_,rfl⟩
 rw [hC]at hN hC1 hA1
 have hC2:=SC (fr:=0) (bs:=AR l) (a:=C.2.1) okb (by omega) (by omega)
 obtain ⟨D,hD⟩:∃D,CA lb 0 (AR l) C.2.1=D:=⟨_,rfl⟩
 rw [hD]at hN hC2
 refine Bg Tryz.func228 rfl fun _=> ?_
 have st:=st0
 refine AB ?_
 refine xn st fun p6 hp st=> ?_
 replace st:St B h0 hp ([pt p6 290 (Ah AW.nil),Cn q A m c a,CO p1 la,CO p2 lb]++F):=st
 replace st:=St.reF _ 4 st [1,2,3,0] (by decide)
 simp only [zj,List.map_nil,An,z5,z4]at st
 refine AO ?_
 refine xk (Rq (fr:=257) st.here oka (fun h' hh=>hrB h' (st.low.trans hh)) hl hm ha (by omega) (by omega)) rfl ?_
 rintro _ hp ⟨rfl,st2⟩
 rw [hC]at st2 ⊢
 replace st:=st.trans st2
 clear st2
 refine AF ?_
 refine xn st fun p9 hp st=> ?_
 replace st:St B h0 hp ([pt p9 283 (Bc BQ.nil),Cn q A m c C.2.1,CO p1 la,CO p2 lb,pt p6 290 (Ah AW.nil)]++F):=st
 replace st:=St.reF _ 5 st [1,2,3,4,0] (by decide)
 simp only [zj,List.map_nil,An,z5,z4]at st
 refine xw (us:=Bc C.1) st 4 (GM _) fun hp st=> ?_
 simp only [z0,z1]at st
 refine AP ?_
 refine Am 22 rfl (fun h=> ?_) (fun h=> ?_)
 ·rw [if_pos (by omega)]at hN
  subst hN
  refine AP ?_
  refine xa (AZ (ps:=[]) (cs:=(Ah AW.nil).toArray) rfl rfl) (AC ?_)
  refine xw (us:=Ah AW.nil) st 3 (Co _) fun hp st=> ?_
  simp only [z0,z1]at st
  refine AF ?_
  refine Af (.cons (Ax (vs:=Ah _) rfl rfl rfl (st.cells 3 rfl)) (.cons (.tmp rfl) (.cons (.tmp rfl) .nil))) ?_
  exact ⟨rfl,(St.reF [_,_,_,_,_] 5 st [3,4,0,1,2] (by decide)).tail.tail⟩
 ·refine AC ?_
  refine xc st 4 0 ?_
  refine AF ?_
  refine AK rfl (fun h=> ?_) (fun h=> ?_)
  ·rw [if_pos (by omega)]at hN
   subst hN
   refine AB ?_
   refine xa (AZ (ps:=[]) (cs:=(Ah AW.nil).toArray) rfl rfl) (AC ?_)
   refine xw (us:=Ah AW.nil) st 3 (Co _) fun hp st=> ?_
   simp only [z0,z1]at st
   refine AF ?_
   refine Af (.cons (Ax (vs:=Ah _) rfl rfl rfl (st.cells 3 rfl)) (.cons (.tmp rfl) (.cons (.tmp rfl) .nil))) ?_
   exact ⟨rfl,(St.reF [_,_,_,_,_] 5 st [3,4,0,1,2] (by decide)).tail.tail⟩
  ·rw [if_neg (by omega)]at hN
   refine AF ?_
   refine xa (Ai (vs:=Bc C.1) (st.cells 4 rfl) rfl rfl rfl rfl) ?_
   refine xa (AZ (ps:=[(0,.agg (Bc C.1).toArray)]) (cs:=(CR ⟨C.1,BQ.nil,false⟩).toArray) rfl rfl) ?_
   refine xn st fun p11 hp st=> ?_
   replace st:St B h0 hp ([pt p11 285 (CR Sy.nil),Cn q A m c C.2.1,CO p1 la,CO p2 lb,pt p6 290 (Ah AW.nil),pt p9 283 (Bc C.1)]++F):=st
   replace st:=St.reF _ 6 st [1,2,3,4,5,0] (by decide)
   simp only [zj,List.map_nil,An,z5,z4]at st
   refine xw (us:=CR ⟨C.1,BQ.nil,false⟩) st 5 (IS _) fun hp st=> ?_
   simp only [z0,z1]at st
   refine AH ?_
   refine xc st 4 0 ?_
   refine AB ?_
   refine AK rfl (fun h=> ?_) (fun h=> ?_)
   ·rw [if_pos (by omega)]at hN
    replace st:=St.reF [_,_,_] 3 st [0,2,1] (by decide)
    simp only [zj,List.map_nil,An,z5,z4]at st
    refine AH ?_
    refine xk (Rq (fr:=0) st.here okb (fun h' hh=>hrB h' (st.low.trans hh)) hl hm (by omega) (by omega) (by omega)) rfl ?_
    rintro _ hp ⟨rfl,st2⟩
    rw [hD]at st2 ⊢
    replace st:=st.trans st2
    clear st2
    replace st:=St.reF [_,_,_] 3 st [0,2,1] (by decide)
    simp only [zj,List.map_nil,An,z5,z4]at st
    refine AJ ?_
    refine BT (Nq (us:=Bc D.1) st 5 rfl rfl rfl rfl rfl (GM _) (by show 3+3≤7;omega)) rfl rfl fun _ hp st=> ?_
    simp only [z0,z1]at st
    replace st:St B h0 hp (Cn q A m c D.2.1::CO p1 la::CO p2 lb::pt p6 290 (Ah AW.nil)::pt p9 283 (Bc C.1)::pt p11 285 (CR ⟨C.1,D.1,false⟩)::F):=st
    refine AO ?_
    refine AK rfl (fun h=> ?_) (fun h=> ?_)
    ·rw [if_pos (by omega)]at hN
     subst hN
     refine AB ?_
     refine xa (AZ (ps:=[]) (cs:=(Ah AW.nil).toArray) rfl rfl) (AC ?_)
     refine xw (us:=Ah AW.nil) st 3 (Co _) fun hp st=> ?_
     simp only [z0,z1]at st
     refine AF ?_
     refine Af (.cons (Ax (vs:=Ah _) rfl rfl rfl (st.cells 3 rfl)) (.cons (.tmp rfl) (.cons (.tmp rfl) .nil))) ?_
     exact ⟨rfl,(St.reF [_,_,_,_,_,_] 6 st [3,4,5,0,1,2] (by decide)).tail.tail.tail⟩
    ·rw [if_neg (by omega)]at hN
     obtain ⟨J,hJ⟩:∃J,DP ⟨C.1,D.1,true⟩=J:=⟨_,rfl⟩
     rw [hJ]at hN
     refine AF ?_
     refine xj st 5 fun hp st=> ?_
     simp only [z0,z1]at st
     refine AF ?_
     refine xa (Ai (vs:=CR ⟨C.1,D.1,true⟩) (st.cells 5 rfl) rfl rfl rfl rfl) ?_
     refine xk (WC (r:=⟨C.1,D.1,true⟩) ⟨hC1.2.2.1,hC1.2.2.2⟩ ⟨hC2.2.2.1,hC2.2.2.2⟩ _) rfl ?_
     rintro _ hp ⟨rfl,hx5⟩
     replace st:=st.ext hx5
     rw [hJ]
     refine AF ?_
     refine xn st fun p12 hp st=> ?_
     replace st:=St.reF [_,_,_,_,_,_,_] 7 st [1,2,3,4,0,5,6] (by decide)
     simp only [zj,List.map_nil,An,z5,z4]at st
     refine xw (us:=Ah J.1) st 4 (Co _) fun hp st=> ?_
     simp only [z0,z1]at st
     refine AP ?_
     refine C6 rfl (fun h=> ?_) (fun h=> ?_)
     ·rw [if_neg (by simpa using h)]at hN
      subst hN
      refine AB ?_
      refine xa (AZ (ps:=[]) (cs:=(Ah AW.nil).toArray) rfl rfl) ?_
      refine xw (us:=Ah AW.nil) st 3 (Co _) fun hp st=> ?_
      simp only [z0,z1]at st
      refine AF ?_
      refine Af (.cons (Ax (vs:=Ah _) rfl rfl rfl (st.cells 3 rfl)) (.cons (.tmp rfl) (.cons (.tmp rfl) .nil))) ?_
      exact ⟨rfl,(St.reF [_,_,_,_,_,_,_] 7 st [3,4,5,6,0,1,2] (by decide)).tail.tail.tail.tail⟩
     ·rw [if_pos (by simpa using h)]at hN
      subst hN
      refine AF ?_
      refine xa (Ai (vs:=Ah J.1) (st.cells 4 rfl) rfl rfl rfl rfl) ?_
      refine xw (us:=Ah J.1) st 3 (Co _) fun hp st=> ?_
      simp only [z0,z1]at st
      refine AF ?_
      refine Af (.cons (Ax (vs:=Ah _) rfl rfl rfl (st.cells 3 rfl)) (.cons (.tmp rfl) (.cons (.tmp rfl) .nil))) ?_
      exact ⟨rfl,(St.reF [_,_,_,_,_,_,_] 7 st [3,4,5,6,0,1,2] (by decide)).tail.tail.tail.tail⟩
   ·rw [if_neg (by omega)]at hN
    obtain ⟨J,hJ⟩:∃J,DP ⟨C.1,BQ.nil,false⟩=J:=⟨_,rfl⟩
    rw [hJ]at hN
    refine AF ?_
    refine xa (Ai (vs:=CR ⟨C.1,BQ.nil,false⟩) (st.cells 5 rfl) rfl rfl rfl rfl) ?_
    refine xk (WC (r:=⟨C.1,BQ.nil,false⟩) ⟨hC1.2.2.1,hC1.2.2.2⟩ ⟨Int.le_refl 0,by show (0:Int)<4294967296;omega⟩ _) rfl ?_
    rintro _ hp ⟨rfl,hx5⟩
    replace st:=st.ext hx5
    rw [hJ]
    refine AF ?_
    refine xn st fun p12 hp st=> ?_
    replace st:=St.reF [_,_,_,_,_,_,_] 7 st [1,2,3,4,0,5,6] (by decide)
    simp only [zj,List.map_nil,An,z5,z4]at st
    refine xw (us:=Ah J.1) st 4 (Co _) fun hp st=> ?_
    simp only [z0,z1]at st
    refine AP ?_
    refine C6 rfl (fun h=> ?_) (fun h=> ?_)
    ·rw [if_neg (by simpa using h)]at hN
     subst hN
     refine AB ?_
     refine xa (AZ (ps:=[]) (cs:=(Ah AW.nil).toArray) rfl rfl) ?_
     refine xw (us:=Ah AW.nil) st 3 (Co _) fun hp st=> ?_
     simp only [z0,z1]at st
     refine AF ?_
     refine Af (.cons (Ax (vs:=Ah _) rfl rfl rfl (st.cells 3 rfl)) (.cons (.tmp rfl) (.cons (.tmp rfl) .nil))) ?_
     exact ⟨rfl,(St.reF [_,_,_,_,_,_,_] 7 st [3,4,5,6,0,1,2] (by decide)).tail.tail.tail.tail⟩
    ·rw [if_pos (by simpa using h)]at hN
     subst hN
     refine AF ?_
     refine xa (Ai (vs:=Ah J.1) (st.cells 4 rfl) rfl rfl rfl rfl) ?_
     refine xw (us:=Ah J.1) st 3 (Co _) fun hp st=> ?_
     simp only [z0,z1]at st
     refine AF ?_
     refine Af (.cons (Ax (vs:=Ah _) rfl rfl rfl (st.cells 3 rfl)) (.cons (.tmp rfl) (.cons (.tmp rfl) .nil))) ?_
     exact ⟨rfl,(St.reF [_,_,_,_,_,_,_] 7 st [3,4,5,6,0,1,2] (by decide)).tail.tail.tail.tail⟩
theorem YB {B q m c a:Nat} {A:Option Addr} {l:List UInt8} {F:List AE} {h0:AA} (st0:St B h0 h0 (Cn q A m c a::F)) (hrB:∀h',BC B h0 h'→Rd h' A (l.map AN)) (hl:l.length=m) (hm:m≤1073741824) (ha:a≤8*m):
  AG Tryz.prog 227 [.pointer (some ⟨q,0,none⟩)] h0 fun v h'=>∃w1 w2 a',v=Al [w1,w2,nV (Df (AR l) a).1]∧a'≤8*m∧St B h0 h' (Cn q A m c a'::F)∧
   ((Df (AR l) a).1=0→a'=(Df (AR l) a).2.2.2∧∃p1 p2,w1= .pointer (some ⟨p1,0,none⟩)∧w2= .pointer (some ⟨p2,0,none⟩)∧St B h0 h' (Cn q A m c a'::CO p1 (Df (AR l) a).2.1::CO p2 (Df (AR l) a).2.2.1::F)):=by
 obtain ⟨N,hN⟩:∃N,Df (AR l) a=N:=⟨_,rfl⟩
 rw [hN]
 unfold Df at hN
 obtain ⟨X,hX⟩:∃X,CS (AR l) a (B0 (AR l) a)=X:=⟨_,rfl⟩
 rw [hX]at hN
 obtain ⟨Y,hY⟩:∃Y,CS (AR l) X.2.1 (B0 (AR l) X.2.1)=Y:=⟨_,rfl⟩
 rw [hY]at hN
 have hmn:∀z:List Nat,z.map nV=(Cr z).map iV:=fun z=>by unfold Cr;rw [List.map_map];rfl
 refine BE Tryz.func227 rfl fun _=> ?_
 have st:=st0
 refine Aj ?_
 refine xk (Vj st.here (fun h' hh=>hrB h' (st.low.trans hh)) hl hm ha) rfl ?_
 rintro _ hp1 ⟨w1,a1,rfl,ha1,hat,st⟩
 rw [hX]at hat st ⊢
 obtain ⟨A1,n1,c1,rfl,hl1,_⟩:=st.row 0 rfl
 rw [z3,zf]at hl1
 refine By ?_
 refine AK rfl (fun h=> ?_) (fun h=> ?_)
 ·rw [if_pos (by omega)]at hN
  subst hN
  refine AP ?_
  exact ⟨_,_,a1,rfl,ha1,st.tail,fun h9=>absurd h9 (by simp only;omega)⟩
 ·rw [if_neg (by omega)]at hN
  obtain rfl:=hat (by omega)
  replace st:=st.perm (List.Perm.swap _ _ _)
  refine AJ ?_
  refine xk (Vj st.here (fun h' hh=>hrB h' (st.low.trans hh)) hl hm ha1) rfl ?_
  rintro _ hp2 ⟨w2,a2,rfl,ha2,hat2,st2⟩
  rw [hY]at hat2 st2 ⊢
  replace st:=st.trans st2
  clear st2
  obtain ⟨A2,n2,c2,rfl,hl2,_⟩:=st.row 0 rfl
  rw [z3,zf]at hl2
  refine Bq ?_
  refine AK rfl (fun h=> ?_) (fun h=> ?_)
  ·rw [if_pos (by omega)]at hN
   subst hN
   refine AP ?_
   exact ⟨_,_,a2,rfl,ha2,(St.reF [_,_,_] 3 st [0,2,1] (by decide)).tail.tail,fun h9=>absurd h9 (by simp only;omega)⟩
  ·rw [if_neg (by omega)]at hN
   obtain rfl:=hat2 (by omega)
   refine AL ?_
   refine Am 28 rfl (fun h=> ?_) (fun h=> ?_)
   ·rw [if_pos (by omega)]at hN
    subst hN
    refine Bq ?_
    exact ⟨_,_,_,rfl,ha2,(St.reF [_,_,_] 3 st [0,2,1] (by decide)).tail.tail,fun h9=>absurd h9 (by decide)⟩
   ·refine AL ?_
    refine AK rfl (fun h=> ?_) (fun h=> ?_)
    ·rw [if_pos (by omega)]at hN
     subst hN
     refine AO ?_
     exact ⟨_,_,_,rfl,ha2,(St.reF [_,_,_] 3 st [0,2,1] (by decide)).tail.tail,fun h9=>absurd h9 (by decide)⟩
    ·rw [if_neg (by omega)]at hN
     refine AL ?_
     refine xk (KC (li:=Cr X.1) (by rw [←hmn];exact (st.rdS 2 rfl).2) (by unfold Cr;rw [z3];exact hl1) (by omega)) rfl ?_
     rintro _ hp3 ⟨w3,rfl,hx3,hy3,hz3⟩
     rw [JC]at hy3
     refine Bu ?_
     refine AK rfl (fun h=> ?_) (fun h=> ?_)
     ·have hR1:¬D5 (Cr X.1):=fun hh=>absurd (Oz.2 hh) h
      rw [if_pos (.inl hR1)]at hN
      subst hN
      replace st:=st.ext hx3
      refine AP ?_
      rw [show GP (Cr X.1)=13 by unfold GP;rw [if_neg hR1]]
      exact ⟨_,_,_,rfl,ha2,(St.reF [_,_,_] 3 st [0,2,1] (by decide)).tail.tail,fun h9=>absurd h9 (by decide)⟩
     ·have hR1:D5 (Cr X.1):=Oz.1 (Classical.not_not.1 h)
      obtain ⟨p1,rfl,st3⟩:=hy3 hR1
      have stx:=st.ext hx3
      replace st:=st.join st3
      simp only [z5,z4]at st
      refine AJ ?_
      refine xk (KC (li:=Cr Y.1) (by rw [←hmn];exact (st.rdS 1 rfl).2) (by unfold Cr;rw [z3];exact hl2) (by omega)) rfl ?_
      rintro _ hp4 ⟨w4,rfl,hx4,hy4,hz4⟩
      rw [JC]at hy4
      refine Bb ?_
      by_cases hR2:D5 (Cr Y.1)
      ·rw [if_neg (by rintro (h | h) <;> exact h (by assumption))]at hN
       subst hN
       obtain ⟨p2,rfl,st4⟩:=hy4 hR2
       have sty:=(St.reF [_,_,_] 3 (stx.ext hx4) [0,2,1] (by decide)).tail.tail
       replace st:=st.join st4
       simp only [z5,z4]at st
       replace st:=(St.reF [_,_,_,_,_] 5 st [2,4,3,1,0] (by decide)).tail.tail
       rw [show GP (Cr Y.1)=0 by unfold GP;rw [if_pos hR2]]
       exact ⟨_,_,_,rfl,ha2,sty,fun _=>⟨rfl,p1,p2,rfl,rfl,st⟩⟩
      ·rw [if_pos (.inr hR2)]at hN
       subst hN
       rw [show GP (Cr Y.1)=13 by unfold GP;rw [if_neg hR2]]
       exact ⟨_,_,_,rfl,ha2,(St.reF [_,_,_] 3 (stx.ext hx4) [0,2,1] (by decide)).tail.tail,fun h9=>absurd h9 (by decide)⟩
theorem YX {B q m c:Nat} {most:Int} {A:Option Addr} {l:List UInt8} {F:List AE} {h0:AA} (st0:St B h0 h0 (Cn q A m c 0::F)) (hrB:∀h',BC B h0 h'→Rd h' A (l.map AN)) (hl:l.length=m) (hm:m≤1048576) (hmo:AI .i64 most):
  AG Tryz.prog 190 [.pointer (some ⟨q,0,none⟩),.int .i64 most] h0 fun v h'=>∃w a',v=Al [w,nV (De (AR l) most).2.2.2]∧a'≤8*m∧((De (AR l) most).2.2.2=0→a'=(De (AR l) most).2.2.1)∧
   St B h0 h' (Cn q A m c a'::row 290 3 w ((De (AR l) most).1.flatMap Ah)::F):=by
 have hbl:=Gk l
 have hok:=SF (bs:=AR l) (a:=0)
 obtain ⟨N,hN⟩:∃N,De (AR l) most=N:=⟨_,rfl⟩
 rw [hN]
 unfold De at hN
 obtain ⟨K,hK⟩:∃K,Df (AR l) 0=K:=⟨_,rfl⟩
 rw [hK]at hN hok
 have bad:∀e,N=([],0,0,e)→e≠0→∀h' a',a'≤8*m→St B h0 h' (Cn q A m c a'::F)→∃w a',Al [.slice none 0 0,nV e]=Al [w,nV N.2.2.2]∧a'≤8*m∧(N.2.2.2=0→a'=N.2.2.1)∧St B h0 h' (Cn q A m c a'::row 290 3 w (N.1.flatMap Ah)::F):=by
  intro e he h0 h' a' ha' st
  subst he
  exact ⟨_,a',rfl,ha',fun h=>absurd h h0,(st.nilrow 290 3).perm (List.Perm.swap _ _ _)⟩
 refine Ac Tryz.func190 rfl fun _=> ?_
 have st:=st0
 refine Bb ?_
 refine xk (YB st.here (fun h' hh=>hrB h' (st.low.trans hh)) hl (by omega) (by omega)) rfl ?_
 rintro _ hp1 ⟨w1,w2,a1,rfl,ha1,st,hk⟩
 rw [hK]at hk ⊢
 refine Bq ?_
 refine AK rfl (fun h=> ?_) (fun h=> ?_)
 ·rw [if_pos (by omega)]at hN
  refine AO ?_
  exact bad _ hN.symm (by omega) _ _ ha1 st
 ·have hK0:K.1=0:=by omega
  rw [if_neg (by omega)]at hN
  obtain ⟨rfl,p1,p2,rfl,rfl,st⟩:=hk hK0
  obtain ⟨oka,okb,na,nb⟩:=hok hK0
  clear hk hok
  refine BP ?_
  replace st:=(st.nilrow 290 3)
  replace st:=St.reF [_,_,_,_] 4 st [1,2,3,0] (by decide)
  simp only [zj,List.map_nil,An,z5,z4]at st
  refine BD (fun s=>s.1) (fun s=>[(0,.pointer (some ⟨q,0,none⟩)),(1,.int .i64 most),(6,.pointer (some ⟨p1,0,none⟩)),(7,.pointer (some ⟨p2,0,none⟩)),(9,s.2.2.2.2),(10,nV s.2.2.1)])
   (fun (s:Nat×Nat×Nat×List AW×Value) hp=>FA K.2.1 K.2.2.1 (AR l) most s.1 s.2.1 s.2.2.1 s.2.2.2.1=N∧8*m+1≤s.2.1+s.1∧s.2.1≤8*m∧s.2.2.1≤258*s.2.1∧s.2.2.2.1.length≤s.2.1∧(0<s.2.2.1→(s.2.2.1:Int)≤most)∧
    St B h0 hp (Cn q A m c s.2.1::CO p1 K.2.1::CO p2 K.2.2.1::row 290 3 s.2.2.2.2 (s.2.2.2.1.flatMap Ah)::F))
   ((AR l).length+1,K.2.2.2,0,[],_) (CL rfl rfl rfl rfl rfl rfl) ⟨hN,by simp only;omega,ha1,Nat.zero_le _,Nat.zero_le _,fun h=>absurd h (by simp),st⟩ ?_
  clear st
  rintro ⟨f,a,sz,acc,v⟩ hp ⟨hg,hf,haa,hsz,hacl,hmz,st⟩
  simp only at hg hf haa hsz hacl hmz st ⊢
  obtain ⟨f,rfl⟩:∃g,f=g+1:=⟨f-1,by omega⟩
  have hna:=UK (la:=K.2.1) (lb:=K.2.2.1) (bs:=AR l) (a:=a) oka okb (by omega)
  rw [FA]at hg
  refine AL ?_
  refine xk (YY st.here oka okb na nb (fun h' hh=>hrB h' (st.low.trans hh)) hl (by omega) haa) rfl ?_
  rintro _ hp2 ⟨rfl,st2⟩
  replace st:=st.trans st2
  clear st2
  obtain ⟨T,hT⟩:∃T,Cy K.2.1 K.2.2.1 (AR l) a=T:=⟨_,rfl⟩
  rw [hT]at hg hna st ⊢
  obtain ⟨A9,n9,c9,rfl,hl9,_⟩:=st.row 3 rfl
  refine AJ ?_
  refine xn st fun p11 hp st=> ?_
  refine xw (us:=Ah T.1) st 0 (Co _) fun hp st=> ?_
  simp only [z0,z1]at st
  refine AL ?_
  refine xc st 0 1 ?_
  refine Bu ?_
  refine AK rfl (fun h=> ?_) (fun h=> ?_)
  ·have ho:T.2.2.1=true:=by
    cases hh:T.2.2.1 with
    | true=>rfl
    | false=>have:=(hna.2.2 hh).2.1;omega
   rw [if_pos ho,if_pos (by omega)]at hg
   have st':=(St.reF [_,_,_,_,_] 5 st [0,2,3,4,1] (by decide)).tail.tail.tail.tail
   refine AO ?_
   exact bad _ hg.symm (by omega) _ _ (by omega) st'
  ·refine AL ?_
   refine C6 rfl (fun h=> ?_) (fun h=> ?_)
   ·have ho:T.2.2.1=true:=by simpa using h
    rw [if_pos ho,if_neg (by omega)]at hg
    refine AO ?_
    subst hg
    exact ⟨_,T.2.1,rfl,by omega,fun _=>rfl,(St.reF [_,_,_,_,_] 5 st [0,2,3,1,4] (by decide)).tail.tail.tail⟩
   ·have ho:T.2.2.1=false:=by simpa using h
    rw [if_neg (by rw [ho];simp)]at hg
    obtain ⟨hlt,he0,hri,hb0,hb1⟩:=hna.2.2 ho
    obtain ⟨hs1,hs2,hs3⟩:=AW.size_le hri
    refine AF ?_
    refine xc st 0 2 ?_
    refine AJ ?_
    refine AK rfl (fun h=> ?_) (fun h=> ?_)
    ·rw [if_pos (by omega)]at hg
     refine AL ?_
     exact bad _ hg.symm (by omega) _ _ (by omega) (St.reF [_,_,_,_,_] 5 st [0,2,3,4,1] (by decide)).tail.tail.tail.tail
    ·rw [if_neg (by omega)]at hg
     refine AH ?_
     refine xa (EU rfl rfl (by simp only [AI]at hmo ⊢;omega)) (AF ?_)
     refine AK rfl (fun h=> ?_) (fun h=> ?_)
     ·rw [if_pos (by omega)]at hg
      refine AL ?_
      exact bad _ hg.symm (by omega) _ _ (by omega) (St.reF [_,_,_,_,_] 5 st [0,2,3,4,1] (by decide)).tail.tail.tail.tail
     ·rw [if_neg (by omega)]at hg
      refine AH ?_
      refine xa (Ai (vs:=Ah T.1) (st.cells 0 rfl) rfl rfl rfl rfl) ?_
      refine xv (D4 (us:=Ah T.1) rfl rfl rfl rfl (by kernel_rfl)) ?_
      rintro _ hp ⟨A8,rfl,hx9,hrd⟩
      replace st:=st.ext hx9
      refine BN (BY st 4 rfl (hrd) (rfl) (Co _) (by rw [EO _ 3 (fun _=>rfl)];simp;omega) rfl rfl rfl rfl rfl rfl rfl) rfl rfl rfl fun v hp st=> ?_
      simp only [z0,z1]at st
      have e2:acc.flatMap Ah++Ah T.1=(acc++[T.1]).flatMap Ah:=by rw [List.flatMap_append];simp
      rw [e2]at st
      refine AL ?_
      refine AT (nV (sz+T.1.size)) (congrArg (Value.int .i64) (by omega)) (AF ?_)
      refine Ad (f,T.2.1,sz+T.1.size,acc++[T.1],_) (CL rfl rfl rfl rfl rfl rfl) ⟨hg,by simp only;omega,by simp only;omega,by simp only;omega,by simp only [z2,ze,zk];omega,fun _=>by simp only;omega,st.tail⟩ (by simp only;omega)
end Go.Bn
end

section
namespace Go.Bn
open Go Proofs
theorem YW {B n c:Nat} {A:Option Addr} {ts:List AW} {F:List AE} {h0:AA} (st0:St B h0 h0 F) (hrB:∀h',BC B h0 h'→Rd h' A (ts.flatMap Ah)) (hl:ts.length=n) (hn:n≤17592186044416) (hby:∀t∈ts,0≤t.byte∧t.byte<256):
  AG Tryz.prog 201 [.slice A n c] h0 fun v h'=>∃w,v=Al [w,.bool (decide (Fo ts))]∧(Fo ts→St B h0 h' (row 285 7 w ((ts.map BH).flatMap CR)::F))∧(¬Fo ts→St B h0 h' F):=by
 refine BE Tryz.func201 rfl fun _=> ?_
 have st:=st0
 refine AH ?_
 refine Hx rfl (fun _ _ _ hh=>hh) (AO ?_)
 refine AK rfl (fun h=> ?_) (fun h=> ?_)
 ·refine AL ?_
  have hno:¬Fo ts:=fun hh=>by have:=hh.1;omega
  rw [zu hno]
  exact ⟨_,rfl,fun hh=>absurd hh hno,fun _=>st⟩
 ·refine Fv ?_
  have st:=st0.nilrow 285 7
  refine BD (fun s=>n-s.1) (fun s=>[(4,s.2),(5,.bool true),(12,.slice A n c),(13,nV n),(14,nV s.1)])
   (fun (s:Nat×Value) hp=>s.1≤n∧(∀t∈ts.take s.1,t.right)∧St B h0 hp (row 285 7 s.2 (((ts.take s.1).map BH).flatMap CR)::F))
   (0,_) (CP rfl rfl rfl rfl rfl) ⟨Nat.zero_le _,by simp,st⟩ ?_
  clear st
  rintro ⟨i,v⟩ hp ⟨hi,hri,st⟩
  simp only at hi hri st ⊢
  refine AH ?_
  refine AK rfl (fun h=> ?_) (fun h=> ?_)
  ·have hil:i<ts.length:=by omega
   obtain ⟨t,ht⟩:∃t,ts[i]=t:=⟨_,rfl⟩
   have htm:t∈ts:=ht▸List.getElem_mem hil
   obtain ⟨g1,o1,rfl,hc1⟩:=Rd.flat Ah 3 (hrB hp st.low) (fun _=>rfl) (by omega) (by omega)
   have hcx:=hc1 i hil
   rw [ht]at hcx
   obtain ⟨A4,n4,c4,rfl,hl4,_⟩:=st.row 0 rfl
   rw [EO _ 7 (fun _=>rfl),z3,z6]at hl4
   have htk:ts.take (i+1)=ts.take i++[t]:=by rw [List.take_succ_eq_append_getElem hil,ht]
   refine AH ?_
   refine xa (Bp (i:=i) rfl rfl rfl (by omega)) ?_
   refine xa (Ai (vs:=Ah t) hcx rfl rfl rfl rfl) ?_
   refine xv (CK rfl) ?_
   rintro _ hp1 ⟨p7,rfl,hnew⟩
   replace st:=st.new hnew
   refine xw (us:=Ah t) st 0 (Co _) fun hp st=> ?_
   simp only [z0,z1]at st
   refine AF ?_
   refine xv (CK rfl) ?_
   rintro _ hp2 ⟨p8,rfl,hnew⟩
   replace st:=st.new hnew
   refine AJ ?_
   refine xa (Ai (vs:=Ah t) (st.cells 1 rfl) rfl rfl rfl rfl) ?_
   refine xk (fJ (hby t htm) _) rfl ?_
   rintro _ hp4 ⟨rfl,hx4⟩
   replace st:=st.ext hx4
   refine AC ?_
   by_cases hrt:t.right
   ·rw [fD hrt]
    refine AB ?_
    refine xw (us:=CR (BH t)) st 0 (IS _) fun hp st=> ?_
    simp only [z0,z1]at st
    refine AL ?_
    refine AT (.bool false) rfl (AH ?_)
    refine xa (Ai (vs:=CR (BH t)) (st.cells 0 rfl) rfl rfl rfl rfl) ?_
    refine xv (D4 (us:=CR (BH t)) rfl rfl rfl rfl (by kernel_rfl)) ?_
    rintro _ hp ⟨A8,rfl,hx9,hrd⟩
    replace st:=st.ext hx9
    refine BN (BY st 2 rfl (hrd) (rfl) (IS _) (by rw [EO _ 7 (fun _=>rfl)];simp;omega) rfl rfl rfl rfl rfl rfl rfl) rfl rfl rfl fun v hp st=> ?_
    simp only [z0,z1]at st
    have e2:((ts.take i).map BH).flatMap CR++CR (BH t)=((ts.take (i+1)).map BH).flatMap CR:=by rw [htk,List.map_append,List.flatMap_append];simp
    rw [e2]at st
    refine AO ?_
    exact Ad (i+1,_) (CP rfl rfl rfl rfl rfl) ⟨by simp only;omega,fun x hx=>by simp only [htk]at hx;rcases List.mem_append.1 hx with hx | hx;exact hri x hx;rw [zo]at hx;rw [hx];exact hrt,st.tail.tail⟩ (by simp only;omega)
   ·rw [fB hrt]
    refine AB ?_
    refine xw (us:=CR Sy.nil) st 0 (IS _) fun hp st=> ?_
    simp only [z0,z1]at st
    refine AL ?_
    refine AT (.bool true) rfl (Bu ?_)
    have hno:¬Fo ts:=fun hh=>hrt (hh.2 t htm)
    rw [zu hno]
    exact ⟨_,rfl,fun hh=>absurd hh hno,fun _=>st.tail.tail.tail⟩
  ·refine Aj ?_
   obtain rfl:i=n:=by omega
   rw [za (by omega)]at hri st
   have hyes:Fo ts:=⟨by omega,hri⟩
   rw [decide_eq_true hyes]
   exact ⟨_,rfl,fun _=>st,fun hh=>absurd hyes hh⟩
theorem Ya {B n c:Nat} {A:Option Addr} {ys:List Sy} {F:List AE} {h0:AA} (st0:St B h0 h0 F) (hrB:∀h',BC B h0 h'→Rd h' A (ys.flatMap CR)) (hl:ys.length=n) (hn:n≤65536) (hok:∀y∈ys,0≤y.a.num∧y.a.num<273∧0≤y.b.num∧y.b.num<30):
  AG Tryz.prog 202 [.slice A n c] h0 fun v h'=>∃w1 w2,v=Al [w1,w2]∧St B h0 h' (row 3 1 w1 ((Hb ys).map nV)::row 3 1 w2 ((FU ys).map nV)::F):=by
 refine BE Tryz.func202 rfl fun _=> ?_
 have st:=st0
 refine AL ?_
 refine HV H0 [] 0 [2,1,3] 1 [0,2,3] (by kernel_rfl) (by kernel_rfl) rfl rfl rfl (AC ?_)
 refine HT (σ:=Value×Value) (fun s=>[(0,.slice A n c),(2,s.1),(3,s.2)]) (fun s hp=>St B h0 hp (row 3 1 s.1 (List.replicate 273 (iV 0))::row 3 1 s.2 (List.replicate 30 (iV 0))::F)) ?_ ?_ ?_
 ·refine BW (GA (by decide) rfl rfl rfl) rfl rfl rfl (fun _ _ e=>e.1) ?_
  rintro v hp hnew
  have st:=st.new hnew
  refine AC ?_
  refine BW (GA (by decide) rfl rfl rfl) rfl rfl rfl (fun _ _ e=>e.1) ?_
  rintro v hp hnew
  have st:=st.new hnew
  refine AB ?_
  exact C7 (_,_) (DJ rfl rfl rfl) (St.reF [_,_] 2 st [1,0] (by decide))
 ·refine BW (GA (by decide) rfl rfl rfl) rfl rfl rfl (fun _ _ e=>e.1) ?_
  rintro v hp hnew
  have st:=st.new hnew
  refine BW (GA (by decide) rfl rfl rfl) rfl rfl rfl (fun _ _ e=>e.1) ?_
  rintro v hp hnew
  have st:=st.new hnew
  refine AF ?_
  exact C7 (_,_) (DJ rfl rfl rfl) st
 rintro ⟨v1,v2⟩ hp st
 simp only at st ⊢
 obtain ⟨ga,na,ca,rfl,hla,_⟩:=st.row0 0 rfl (by rw [zg];omega)
 obtain ⟨gb,nb,cb,rfl,hlb,_⟩:=st.row0 1 rfl (by rw [zg];omega)
 obtain rfl:na=273:=by rw [zg]at hla;omega
 obtain rfl:nb=30:=by rw [zg]at hlb;omega
 refine AF ?_
 refine xa (C0 (i:=256) rfl rfl rfl (by omega)) ?_
 refine BT (EL (o:=0) (i:=256) (v:=nV 1) st 0 rfl (congrArg (fun x=>some (Value.pointer (some ⟨ga,x,none⟩))) (by omega)) rfl (by simp) rfl rfl) rfl rfl fun _ hp st=> ?_
 simp only [z0,z1]at st
 rw [show (List.replicate 273 (iV 0)).set 256 (nV 1)=(DO (ys.take 0)).1.map nV by show _=((List.replicate 273 0).set 256 1).map nV;rw [List.map_set,List.map_replicate];rfl,show List.replicate 30 (iV 0)=(DO (ys.take 0)).2.1.map nV by show _=(List.replicate 30 0).map nV;rw [List.map_replicate];rfl]at st
 refine B3 ?_
 refine BD (fun i=>n-i) (fun i=>[(2,.slice (some ⟨ga,0,none⟩) 273 ca),(3,.slice (some ⟨gb,0,none⟩) 30 cb),(4,nV (DO (ys.take i)).2.2),(11,.slice A n c),(12,nV n),(13,nV i)])
  (fun (i:Nat) hp=>i≤n∧St B h0 hp (row 3 1 (.slice (some ⟨ga,0,none⟩) 273 ca) ((DO (ys.take i)).1.map nV)::row 3 1 (.slice (some ⟨gb,0,none⟩) 30 cb) ((DO (ys.take i)).2.1.map nV)::F))
  0 (CL rfl rfl rfl rfl rfl rfl) ⟨Nat.zero_le _,st⟩ ?_
 clear st
 rintro i hp ⟨hi,st⟩
 obtain ⟨W,hW⟩:∃W,DO (ys.take i)=W:=⟨_,rfl⟩
 have hWk:=H7 (ys.take i)
 rw [hW]at st hWk ⊢
 obtain ⟨k1,k2,k3,k4,k5⟩:=hWk
 rw [z6]at k3 k4 k5
 refine AH ?_
 refine AK rfl (fun h=> ?_) (fun h=> ?_)
 ·have hil:i<ys.length:=by omega
  obtain ⟨y,hy⟩:∃y,ys[i]=y:=⟨_,rfl⟩
  have hyo:=hok y (hy▸List.getElem_mem hil)
  obtain ⟨gy,oy,rfl,hcy⟩:=Rd.flat CR 7 (hrB hp st.low) (fun _=>rfl) (by omega) (by omega)
  have hcx:=hcy i hil
  rw [hy]at hcx
  have hsn:DO (ys.take (i+1))=C2 W y:=by rw [List.take_succ_eq_append_getElem hil,hy,Zl,hW]
  obtain ⟨ya,hya⟩:∃a:Nat,y.a.num=a:=⟨y.a.num.toNat,by omega⟩
  obtain ⟨yb,hyb⟩:∃a:Nat,y.b.num=a:=⟨y.b.num.toNat,by omega⟩
  have hga:W.1[ya]? =some (W.1.getD ya 0):=by rw [List.getD_eq_getElem?_getD,z9 (by omega)];rfl
  have hgb:W.2.1[yb]? =some (W.2.1.getD yb 0):=by rw [List.getD_eq_getElem?_getD,z9 (by omega)];rfl
  have hma:=KN (List.mem_of_getElem? hga)
  have hmb:=KN (List.mem_of_getElem? hgb)
  refine AH ?_
  refine xa (Bp (i:=i) rfl rfl rfl (by omega)) ?_
  refine xa (Ai (vs:=CR y) hcx rfl rfl rfl rfl) ?_
  refine xv (CK rfl) ?_
  rintro _ hp1 ⟨p6,rfl,hnew⟩
  replace st:=st.new hnew
  refine xw (us:=CR y) st 0 (IS _) fun hp st=> ?_
  simp only [z0,z1]at st
  obtain ⟨_,_,he1,hc1⟩:=(st.rdS 1 rfl).2.at_ (by rw [z3];omega)
  cases he1
  have hov:=hc1 ya (nV (W.1.getD ya 0)) (by rw [zr,hga];rfl)
  refine AL ?_
  refine xc st 0 0 ?_
  refine AT (nV ya) (congrArg (Value.int .i64) hya) ?_
  refine xa (C0 (i:=ya) rfl rfl rfl (by omega)) ?_
  refine xl (hov) rfl (AC ?_)
  refine xa (C0 (i:=ya) rfl rfl rfl (by omega)) ?_
  refine BT (EL (o:=0) (i:=ya) (v:=nV (W.1.getD ya 0+1)) st 1 rfl (congrArg (fun x=>some (Value.pointer (some ⟨ga,x,none⟩))) (by omega)) rfl (by simp;omega) rfl rfl) rfl rfl fun _ hp st=> ?_
  simp only [z0,z1]at st
  rw [HK]at st
  refine AJ ?_
  refine xc st 0 6 ?_
  refine AT (.bool (decide (y.m=true))) (congrArg Value.bool (by cases y.m <;> rfl)) ?_
  refine AC ?_
  refine AK rfl (fun h=> ?_) (fun h=> ?_)
  ·have hs2:DO (ys.take (i+1))=(W.1.set ya (W.1.getD ya 0+1),W.2.1.set yb (W.2.1.getD yb 0+1),W.2.2+1):=by
    rw [hsn];simp only [C2,Fw,hya,hyb,Int.toNat_natCast];rw [if_pos h,if_pos h]
   obtain ⟨_,_,he2,hc2⟩:=(st.rdS 2 rfl).2.at_ (by rw [z3];omega)
   cases he2
   have hov2:=hc2 yb (nV (W.2.1.getD yb 0)) (by rw [zr,hgb];rfl)
   refine BP ?_
   refine xc st 0 3 ?_
   refine AT (nV yb) (congrArg (Value.int .i64) hyb) ?_
   refine xa (C0 (i:=yb) rfl rfl rfl (by omega)) ?_
   refine xl (hov2) rfl (AC ?_)
   refine xa (C0 (i:=yb) rfl rfl rfl (by omega)) ?_
   refine BT (EL (o:=0) (i:=yb) (v:=nV (W.2.1.getD yb 0+1)) st 2 rfl (congrArg (fun x=>some (Value.pointer (some ⟨gb,x,none⟩))) (by omega)) rfl (by simp;omega) rfl rfl) rfl rfl fun _ hp st=> ?_
   simp only [z0,z1]at st
   rw [HK]at st
   refine AL ?_
   exact Ad (i+1) (.cons rfl (.cons rfl (.cons (by rw [hs2];rfl) (DJ rfl rfl rfl)))) ⟨by omega,by rw [hs2];exact st.tail⟩ (by omega)
  ·have hs2:DO (ys.take (i+1))=(W.1.set ya (W.1.getD ya 0+1),W.2.1,W.2.2):=by
    rw [hsn];simp only [C2,Fw,hya,Int.toNat_natCast];rw [if_neg h,if_neg h]
   refine AL ?_
   exact Ad (i+1) (.cons rfl (.cons rfl (.cons (by rw [hs2];rfl) (DJ rfl rfl rfl)))) ⟨by omega,by rw [hs2];exact st.tail⟩ (by omega)
 ·rw [za (by omega)]at hW
  refine AO ?_
  refine AK rfl (fun h=> ?_) (fun h=> ?_)
  ·have hs:FU ys=W.2.1.set 0 1:=by unfold FU;rw [hW,if_pos (by omega)]
   refine AB ?_
   refine xa (C0 (i:=0) rfl rfl rfl (by omega)) ?_
   refine BT (EL (o:=0) (i:=0) (v:=nV 1) st 1 rfl (congrArg (fun x=>some (Value.pointer (some ⟨gb,x,none⟩))) (by omega)) rfl (by simp;omega) rfl rfl) rfl rfl fun _ hp st=> ?_
   simp only [z0,z1]at st
   rw [HK]at st
   refine Aj ?_
   exact ⟨_,_,rfl,by rw [hs,show Hb ys=W.1 from congrArg (·.1) hW];exact st⟩
  ·have hs:FU ys=W.2.1:=by unfold FU;rw [hW,if_neg (by omega)]
   refine Aj ?_
   exact ⟨_,_,rfl,by rw [hs,show Hb ys=W.1 from congrArg (·.1) hW];exact st⟩
end Go.Bn
end

section
namespace Go.Bn
open Go Proofs
noncomputable def GU (ws L:List Nat):List Nat:=(List.range ws.length).map fun s=>Cv L ((BI ws).idxOf s)
noncomputable def Fl (ws L:List Nat) (k:Nat):List Nat:=(List.range ws.length).map fun s=>Cv L ((BI ws).idxOf s)+if (BI ws).idxOf s<k then 1 else 0
theorem L5 (ws:List Nat):GU ws []=List.replicate ws.length 0:=by
 refine List.ext_getElem (by simp [GU]) fun i h1 h2=> ?_
 simp [GU,Cv]
theorem P5 (ws L:List Nat):(GU ws L).length=ws.length:=by simp [GU]
theorem Ur (ws L:List Nat):Fl ws L 0=GU ws L:=by
 unfold Fl GU
 refine List.map_congr_left fun s _=> ?_
 rw [if_neg (by omega),Nat.add_zero]
theorem a9 (L:List Nat) (k i:Nat):Cv (L++[k]) i=Cv L i+if i<k then 1 else 0:=by
 unfold Cv
 rw [List.countP_append,List.countP_singleton];simp
theorem Uo (ws L:List Nat) (k:Nat):Fl ws L k=GU ws (L++[k]):=by
 unfold Fl GU
 exact List.map_congr_left fun s _=>(a9 L k _).symm
theorem Up (ws L:List Nat) (k:Nat):(Fl ws L k).length=ws.length:=by simp [Fl]
theorem cc {ws L:List Nat} {k s:Nat} (hs:s<ws.length):(Fl ws L k)[s]? =some (Cv L ((BI ws).idxOf s)+if (BI ws).idxOf s<k then 1 else 0):=by
 unfold Fl;simp [hs]
theorem Uq {ws L:List Nat} {k:Nat} (hk:k < (BI ws).length):(Fl ws L k).set ((BI ws).getD k 0) (Cv L k+1)=Fl ws L (k+1):=by
 refine List.ext_getElem (by simp [Fl]) fun i h1 h2=> ?_
 have hi:i<ws.length:=by simpa [Fl]using h2
 rw [List.getElem_set]
 have hx:=M7 hk
 by_cases h:(BI ws).getD k 0=i
 ·rw [if_pos h]
  simp only [Fl,List.getElem_map,List.getElem_range]
  rw [←h,hx,if_pos (by omega)]
 ·rw [if_neg h]
  simp only [Fl,List.getElem_map,List.getElem_range]
  congr 1
  have hne:(BI ws).idxOf i≠k:=fun he=>by
   have hl:(BI ws).idxOf i < (BI ws).length:=by omega
   have:=List.getElem_idxOf hl
   refine h ?_
   rw [ER hk,←this]
   simp only [he]
  by_cases h3:(BI ws).idxOf i<k
  ·rw [if_pos h3,if_pos (by omega)]
  ·rw [if_neg h3,if_neg (by omega)]
theorem P6 (ws:List Nat):GU ws (C8 ws)=DY ws:=rfl
theorem ak {ws:List Nat} (h:(BI ws).length=0):DY ws=List.replicate ws.length 0:=by
 rw [←L5,←P6]
 unfold C8;rw [h];rfl
theorem aj {ws:List Nat} (h:(BI ws).length=1):(List.replicate ws.length 0).set ((BI ws).getD 0 0) 1=DY ws:=by
 rw [←L5,←Ur,←P6]
 have e:=Uq (L:=[]) (show 0 < (BI ws).length by omega)
 rw [show Cv [] 0+1=1 from rfl]at e
 rw [e,Uo]
 unfold C8;rw [h];rfl
def HZ (li:List Int):Int:=if 320<li.length then 5 else if Gl 1073741824 li then 0 else 1
noncomputable def IC (li:List Int):List Nat:=if HZ li=0 then DY (li.map Int.toNat)else []
theorem Si {li:List Int}:HZ li=0↔Gl 1073741824 li:=by
 unfold HZ
 split
 ·rename_i h;exact ⟨fun hh=>by omega,fun hh=>by have:=hh.1;omega⟩
 ·split <;> simp [*]
theorem To {n c:Nat} {A:Option Addr} {li:List Int} {h0:AA} (hr:Rd h0 A (li.map iV)) (hl:li.length=n) (hn:n≤17592186044416):
  AG Tryz.prog 235 [.slice A n c] h0 fun v h'=>∃v1,v=Al [v1,.int .i64 (HZ li)]∧St h0.size h0 h' [row 3 1 v1 ((IC li).map nV)]:=by
 refine BE Tryz.func235 rfl fun _=>Bq ?_
 refine AK rfl (fun h=> ?_) (fun h=> ?_)
 ·refine AL ?_
  have he:HZ li=5:=by unfold HZ;rw [if_pos (by omega)]
  refine ⟨_,by rw [he],?_⟩
  unfold IC
  rw [he,if_neg (by omega)]
  exact ((St.start h0).nilrow 3 1)
 ·refine AF ?_
  refine xk (XD 1073741824 hr hl hn) rfl ?_
  rintro _ hp ⟨rfl,hx⟩
  refine AF ?_
  refine AK rfl (fun h=> ?_) (fun h=> ?_)
  ·refine AL ?_
   have he:HZ li=1:=by unfold HZ;rw [if_neg (by omega),if_neg h]
   refine ⟨_,by rw [he],?_⟩
   unfold IC
   rw [he,if_neg (by omega)]
   exact (((St.start h0).ext hx).nilrow 3 1)
  ·have hR:Gl 1073741824 li:=Decidable.not_not.1 h
   have he0:=Si.2 hR
   have hlens:IC li=DY (li.map Int.toNat):=by unfold IC;rw [if_pos he0]
   rw [hlens,he0]
   have hr2:Rd h0 A ((li.map Int.toNat).map nV):=by rw [Hl,Qx fun x hx=>(hR.2 x hx).1];exact hr
   have hwb:∀s,Bo (li.map Int.toNat) s≤1073741824:=fun s=>by
    unfold Bo
    rcases Nat.lt_or_ge s li.length with h1 | h1
    ·have:=(hR.2 li[s] (List.getElem_mem h1)).2
     simp [List.getD,h1];omega
    ·simp [List.getD,h1]
   have hn320:=hR.1
   have hlw:(li.map Int.toNat).length=n:=by rw [z3];exact hl
   obtain ⟨ws,hws⟩:∃ws,li.map Int.toNat=ws:=⟨_,rfl⟩
   rw [hws]at hr2 hlw hwb ⊢
   have st:=(St.start h0).ext hx
   have hsl:=Wd ws
   refine AL ?_
   refine xv (GA (by omega) rfl rfl rfl) ?_
   rintro v hp hnew
   have st:=st.new hnew
   obtain ⟨Ao,no,co,rfl,_,_,_,_⟩:=st.row 0 rfl
   refine xv (CK rfl) ?_
   rintro _ hp ⟨p4,rfl,hnew⟩
   replace st:=st.new hnew
   refine xj st 0 fun hp st=> ?_
   simp only [z0,z1]at st
   refine AJ ?_
   refine xk (aE (hr2.ext st.low) hlw (by omega)) rfl ?_
   rintro v2 hp2 st2
   obtain ⟨As,ns,cs,rfl,hls,_,_,_⟩:=st2.row 0 rfl
   replace st:=st.join st2
   simp only [z5,z4]at st
   rw [z3,zf]at hls
   have hrow:=(st.rdS 2 rfl).1
   rw [zg]at hrow
   have hno:no=n:=by omega
   rw [hno]at st
   rw [show List.replicate n (Value.int .i64 0)=(GU ws []).map nV by rw [L5,List.map_replicate,hlw];rfl]at st
   refine xv (CK rfl) ?_
   rintro _ hp ⟨p5,rfl,hnew⟩
   replace st:=st.new hnew
   refine xj st 0 fun hp st=> ?_
   simp only [z0,z1]at st
   refine AJ ?_
   refine xc st 0 0 ?_
   refine AF ?_
   refine AK rfl (fun h=> ?_) (fun h=> ?_)
   ·have h3:(BI ws).length=1:=by omega
    obtain ⟨g5,o5,rfl,hc5⟩:=(st.rdS 1 rfl).2.at_ (by rw [z3];omega)
    have hs0:=hc5 0 (nV ((BI ws).getD 0 0)) (by rw [zr,z9 (by omega),ER (by omega)];rfl)
    have hsn:=(Hk.1 (HH (l:=BI ws) (i:=0) (by omega))).1
    obtain ⟨go,no',co',heo,_⟩:=st.row0 3 rfl (by rw [z3,P5];omega)
    cases heo
    refine AC ?_
    refine xc st 2 0 ?_
    refine xc st 0 0 ?_
    refine xa (C0 (i:=0) rfl rfl rfl (by omega)) ?_
    refine xl (hs0) rfl (AC ?_)
    refine BT (EL (v:=nV 1) st 3 rfl rfl rfl (by rw [z3,P5];omega) rfl rfl) rfl rfl fun _ hp st=> ?_
    simp only [z0,z1]at st
    rw [HK,L5,aj h3]at st
    refine AJ ?_
    refine xc st 0 0 ?_
    refine AF ?_
    refine AK rfl (fun h=> ?_) (fun h=> ?_)
    ·refine AB ?_
     refine xc st 2 0 ?_
     refine AJ ?_
     exact ⟨_,rfl,(st.re 4 [3,0,1,2] (by decide)).keep 1⟩
    ·exact absurd h (by omega)
   ·refine AJ ?_
    refine xc st 0 0 ?_
    refine AF ?_
    refine AK rfl (fun h=> ?_) (fun h=> ?_)
    ·refine AB ?_
     refine xc st 2 0 ?_
     refine AJ ?_
     rename_i h3 h4
     refine ⟨_,rfl,?_⟩
     rw [ak (by omega),←L5]
     exact (st.re 4 [3,0,1,2] (by decide)).keep 1
    ·refine AB ?_
     have h2n:2≤(BI ws).length:=by omega
     obtain ⟨go,no',co',heo,_⟩:=st.row0 3 rfl (by rw [z3,P5];omega)
     cases heo
     refine AB ?_
     refine xc st 0 0 ?_
     refine xk (d7) rfl ?_
     rintro _ hp3 ⟨pa,pq,rfl,st3⟩
     replace st:=st.join st3
     simp only [z5,z4]at st
     have stc:=st.re 6 [0,1,3,2,4,5] (by decide)
     simp only [zj,List.map_nil,An]at stc
     have hbase:=stc.low
     refine xk (Yv (α:=List Value×List (Value×List Value)) (Q:=fun x=>x.1.length=15∧∀j,j<15→(x.1.getD j (.slice none 0 0),(Bs (Eg ws) (j+1)).flatMap eC)∈x.2) (out:=fun x=>x.1) (F2:=fun x=>Fp 365 2 x.2::Bn.row 3 1 (.slice As ns cs) ((BI ws).map nV)::_) (lb:=[.pointer (some ⟨pa,0,none⟩),.pointer (some ⟨pq,0,none⟩)]) stc.here (by kernel_rfl) (fun JR G y h hlow s hround=>by refine AG.mono (d6 (ws:=ws) (F:=[_,_,_]++G) JR (s.perm (((zb [_,_,_] (JR []) G).cons _).cons _ |>.cons _)) (fun h' hl'=>hr2.ext ((hbase.trans hlow).trans hl')) hlw (fun s hs=>by have:=(Hk.1 hs).1;omega) (by omega) (fun s _=>hwb s) hround) ?_;rintro _ h' ⟨vs,L,e1,e2,s2⟩;exact ⟨(vs,L),⟨e1,e2⟩,s2⟩)) rfl ?_
     rintro v6 hp6 ⟨⟨vs,L⟩,⟨hvs,hvL⟩,st6⟩
     obtain ⟨A6,n6,c6,rfl,hl6,_,_,_⟩:=st6.row 0 rfl
     simp only at st6 hl6 hvs hvL
     obtain rfl:n6=15:=by omega
     replace st:=stc.trans st6
     refine AJ ?_
     refine xc st 3 0 ?_
     refine AC ?_
     first | refine AD (D0 (m:=2) rfl rfl (by simp only [AI];omega)) rfl rfl ?_ | refine AD (F8 rfl rfl (by simp only [AI];omega)) rfl rfl ?_ | refine AD (F7 rfl rfl) rfl rfl ?_
     refine xa (Bk (m:=2*ns) (n:=2) rfl rfl (by omega) (by simp only [AI];omega)) ?_
     refine xv (CK rfl) ?_
     rintro _ hp ⟨p7,rfl,hnew⟩
     replace st:=st.new hnew
     refine xj st 0 fun hp st=> ?_
     simp only [z0,z1]at st
     refine AH ?_
     refine xk (X8) rfl ?_
     rintro _ hp8 ⟨pb,rfl,st8⟩
     replace st:=st.join st8
     simp only [z5,z4]at st
     refine AB ?_
     refine GL st rfl rfl (by kernel_rfl) fun fn tmps LL y d hp1 hL hok hx1 st1=> ?_
     obtain ⟨JR,hJR⟩:∃JR:Nat→List AE,JR=fun j=>[Cb fun x:List Nat×Nat=>Fb (x.1++Eo (Eg ws) (15-j) x.2=C8 ws∧x.2≤(Bs (Eg ws) (15-j)).length) (CD (pt p7 3 [nV x.2]) (Bn.row 3 1 (.slice (some ⟨go,0,none⟩) n co) ((GU ws x.1).map nV))),
      BG y (LL .ready none),Fp 365 2 L,Bn.row 3 1 (.slice As ns cs) ((BI ws).map nV),pt p5 61 [.slice As ns cs],pt p4 61 [.slice (some ⟨go,0,none⟩) n co]]:=⟨_,rfl⟩
     have st9:=st1.re 10 [3,9,2,4,0,5,6,7,8,1] (by decide)
     simp only [zj,List.map_nil,An]at st9
     have hT:([]:List Nat)++Eo (Eg ws) (15-0) (2*ns-2)=C8 ws∧2*ns-2≤(Bs (Eg ws) (15-0)).length:=by
      rw [←hls]
      exact ⟨(KO h2n).symm,N1 h2n (by omega)⟩
     have st10:=(St.ex.2 ⟨([],2*ns-2),St.and.2 ⟨hT,St.star.2 st9⟩⟩:St h0.size h0 hp1 ((Cb fun x:List Nat×Nat=>Fb (x.1++Eo (Eg ws) (15-0) x.2=C8 ws∧x.2≤(Bs (Eg ws) (15-0)).length) (CD (pt p7 3 [nV x.2]) (Bn.row 3 1 (.slice (some ⟨go,0,none⟩) n co) ((GU ws x.1).map nV))))::_)).re 9 [1,2,0,3,4,5,6,7,8] (by decide)
     simp only [zj,List.map_nil,An]at st10
     have st11:St h0.size h0 hp1 (pt pb 355 [.slice A6 15 c6]::Bn.row 357 1 (.slice A6 15 c6) vs::(JR 0++[BG d (.deferred (some []))])):=by rw [hJR];exact st10
     refine AG.mono (X7 JR (by omega) st11.here ?_) ?_
     ·intro j F' h hlow hj st2
      subst hL
      subst hJR
      simp only [z5,z4]at st2
      obtain ⟨⟨dn,t⟩,st2⟩:=St.ex.1 st2
      obtain ⟨⟨hlev,ht⟩,st2⟩:=St.and.1 st2
      replace st2:=St.star.1 st2
      simp only at hlev ht st2
      obtain ⟨r,hr15⟩:∃r,15-j=r+1:=⟨14-j,by omega⟩
      rw [hr15]at hlev ht
      have hrj:15-1-j=r:=by omega
      rw [hrj]
      have hmem:=hvL r (by omega)
      obtain ⟨A9,n9,c9,hv9,hl9,hn9,_,hrd9⟩:=st2.rowsAt 3 rfl hmem
      rw [EO _ 2 (fun _=>rfl)]at hl9
      simp only at hv9
      rw [hv9]
      obtain ⟨k1,k2,k3,k4,_⟩:=Jq (MN ws) r t ht
      rw [MO]at k2
      have hrb:=QV (Eg ws) (r+1)
      rw [MO]at hrb
      refine GZ (st2.obj_at 2 rfl) hok rfl rfl fun w0 hw0=> ?_
      simp only [E2]
      refine AF ?_
      refine GJ (st2.obj_at 2 rfl) ?_
      have st:=st2.loop 2 .busy none rfl
      simp only [z0,z1]at st
      refine Aj ?_
      refine xc st 0 0 ?_
      refine AC ?_
      rw [H1]
      refine AJ ?_
      rw [←Ur]at st
      refine BD (fun s=>t-s.1) (fun s=>[(4,.pointer (some ⟨p4,0,none⟩)),(5,.pointer (some ⟨p5,0,none⟩)),(7,.pointer (some ⟨p7,0,none⟩)),(10,nV s.2),(52,.slice A9 t c9),(53,nV t),(54,nV s.1)])
       (fun (s:Nat×Nat) hp=>s.1≤t∧s.2=((Bs (Eg ws) (r+1)).take s.1).countP FB∧BC h0.size h hp∧St h0.size h hp (pt p7 3 [nV t]::Bn.row 3 1 (.slice (some ⟨go,0,none⟩) n co) ((Fl ws dn s.2).map nV)::BG y (DR fn tmps #[48,49] _ _ d .busy none)::Fp 365 2 L::Bn.row 3 1 (.slice As ns cs) ((BI ws).map nV)::pt p5 61 [.slice As ns cs]::pt p4 61 [.slice (some ⟨go,0,none⟩) n co]::F'))
       (0,0) (Fq rfl rfl rfl rfl rfl rfl rfl) ⟨Nat.zero_le _,by simp,st.low,st⟩ ?_
      clear st
      rintro ⟨i,k⟩ hp9 ⟨hi,hk,hlow9,st⟩
      simp only at hi hk st ⊢
      refine AH ?_
      refine AK rfl (fun h=> ?_) (fun h=> ?_)
      ·have hit:i < (Bs (Eg ws) (r+1)).length:=by omega
       have hrd9:=(st.rowsAt 3 rfl hmem)
       simp only [hv9]at hrd9
       obtain ⟨A9',n9',c9',he9,_,_,_,hrd9⟩:=hrd9
       cases he9
       obtain ⟨g9,o9,rfl,hc9⟩:=Rd.flat eC 2 hrd9 (fun _=>rfl) (by omega) (by omega)
       have hcell:=hc9 i hit
       have htk:=List.take_succ_eq_append_getElem hit
       obtain ⟨e,hee⟩:∃e,(Bs (Eg ws) (r+1))[i]=e:=⟨_,rfl⟩
       rw [hee]at hcell htk
       have hk':((Bs (Eg ws) (r+1)).take (i+1)).countP FB=k+if FB e=true then 1 else 0:=by
        rw [htk,List.countP_append,List.countP_singleton,hk]
       obtain ⟨q1,q2,_⟩:=Jq (MN ws) r (i+1) (by omega)
       unfold EJ at q1 q2
       rw [MO]at q2
       refine AH ?_
       refine xa (Bp (i:=i) rfl rfl rfl (by omega)) ?_
       refine xa (Ai (vs:=eC e) (fun j u hu=>hcell j u hu) rfl rfl rfl rfl) ?_
       refine xv (CK rfl) ?_
       rintro _ hp ⟨p12,rfl,hnew⟩
       replace st:=st.new hnew
       refine xw (us:=eC e) st 0 (Lb e) fun hp st=> ?_
       simp only [z0]at st
       refine AJ ?_
       refine xc st 0 1 ?_
       refine AC ?_
       refine C6 rfl (fun h=> ?_) (fun h=> ?_)
       ·rw [if_pos h]at hk'
        have hks:k < (BI ws).length:=by omega
        obtain ⟨g5,o5,rfl,hc5⟩:=(st.rdS 5 rfl).2.at_ (by rw [z3];omega)
        have hsk:=hc5 k (nV ((BI ws).getD k 0)) (by rw [zr,z9 hks,ER hks];rfl)
        have hsn:=(Hk.1 (HH (l:=BI ws) hks)).1
        have hog:=cc (L:=dn) (k:=k) hsn
        rw [M7 hks,if_neg (by omega),Nat.add_zero]at hog
        obtain ⟨g6,o6,he6,hc6⟩:=(st.rdS 2 rfl).2.at_ (by rw [z3,Up];omega)
        cases he6
        have hov:=hc6 _ _ (F4 hog)
        have hset:=Uq (L:=dn) hks
        have hlv:=T7 dn k
        have hdl:dn.length≤15:=by
         have:=congrArg List.length hlev
         rw [z2,LS]at this
         have:=Tu (ws:=ws)
         omega
        refine AB ?_
        refine xc st 7 0 ?_
        refine xc st 6 0 ?_
        refine AB ?_
        refine xl (hsk) rfl (AC ?_)
        refine xl (hov) rfl (AB ?_)
        refine BT (EL (v:=nV (Cv dn k+1)) st 2 rfl rfl rfl (by rw [z3,Up];omega) rfl rfl) rfl rfl fun _ hp st=> ?_
        simp only [z0,z1]at st
        rw [HK,hset]at st
        refine Bu ?_
        exact Ad (i+1,k+1) (Fq rfl rfl rfl rfl rfl rfl rfl) ⟨by simp only;omega,hk'.symm,st.low,st.tail⟩ (by simp only;omega)
       ·refine AL ?_
        have hff:¬FB e=true:=by simpa using h
        rw [if_neg hff,Nat.add_zero]at hk'
        exact Ad (i+1,k) (Fq rfl rfl rfl rfl rfl rfl rfl) ⟨by simp only;omega,hk'.symm,st.low,st.tail⟩ (by simp only;omega)
      ·refine AC ?_
       obtain rfl:i=t:=by omega
       have hkn:k=EJ (Eg ws) (r+1) i:=hk
       refine AC ?_
       refine xc st 0 0 ?_
       refine AB ?_
       first | refine AD (D0 (m:=2) rfl rfl (by simp only [AI];omega)) rfl rfl ?_ | refine AD (F8 rfl rfl (by simp only [AI];omega)) rfl rfl ?_ | refine AD (F7 rfl rfl) rfl rfl ?_
       refine xj st 0 fun hp st=> ?_
       simp only [z0,z1]at st
       refine AB ?_
       refine FL (st.obj_at 2 rfl) ⟨rfl,?_⟩
       replace st:=st.loop 2 .ready none rfl
       simp only [z0,z1]at st
       rw [Uo]at st
       have hj1:15 - (j+1)=r:=by omega
       simp only [z5,z4,hj1]
       refine St.ex.2 ⟨(dn++[k],2*(i-k)),St.and.2 ⟨⟨?_,?_⟩,St.star.2 st⟩⟩
       ·rw [←hlev,Eo,←hkn];simp
       ·rw [←hkn]at k3;exact k3
     rintro _ h' st2
     subst hJR
     simp only [z5,z4]at st2
     refine .inl ⟨_,(st11.trans st2).perm (List.Perm.swap _ _ _),fun hp3 st3=> ?_⟩
     obtain ⟨⟨dn,t⟩,st3⟩:=St.ex.1 (st3.perm (List.Perm.swap _ _ _))
     obtain ⟨⟨hlev,_⟩,st3⟩:=St.and.1 st3
     have st:=St.star.1 st3
     simp only at hlev st
     rw [show 15-15=0 from rfl,Eo,List.append_nil]at hlev
     rw [hlev,P6]at st
     refine AF ?_
     refine xc st 6 0 ?_
     refine AF ?_
     refine Gg (d:=d) (.cons (.tmp rfl) (.cons (.tmp rfl) .nil)) ?_ (st.obj_at 7 rfl)
     replace st:=st.put 7 (.deferred none) rfl
     exact ⟨_,rfl,(st.re 8 [1,0,2,3,4,5,6,7] (by decide)).keep 1⟩
end Go.Bn
end

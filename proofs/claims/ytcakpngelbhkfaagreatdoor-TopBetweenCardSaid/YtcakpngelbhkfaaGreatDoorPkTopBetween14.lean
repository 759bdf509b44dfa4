/- Packed texts of a claim: what its theorem uses, joined. -/
import Derived.Test.YtcakpngelbhkfaaGreatDoorPkTopBetween13
set_option maxRecDepth 100000
set_option maxHeartbeats 4000000
set_option linter.unusedVariables false
set_option linter.unusedSimpArgs false
set_option linter.unusedSectionVars false
set_option linter.defProp false
section
namespace Go.Bn
open Go Proofs
@[reducible] def CJ (v:Value) (l:List Av):AE:=row 92 7 v (Bf l)
theorem Rd.off {hp:AA} {g:Nat} {vs:List Value} (h:Rd hp (some ⟨g,0,none⟩) vs) (o:Nat):Rd hp (some ⟨g,o,none⟩) (vs.drop o):=by
 rcases h with rfl | ⟨b,o',hA,hc⟩
 ·exact .inl (by simp)
 ·cases hA
  refine .inr ⟨g,o,rfl,fun i u hu=> ?_⟩
  rw [List.getElem?_drop]at hu
  simpa using hc (o+i) u hu
theorem Z9 {P M D Z:List Value} {p k d:Nat} (hP:P.length=p) (hM:M.length=k) (hD:D.length=d) (hZ:Z.length=k+d):
  (((P++Z).take p++M++(P++Z).drop (p+k)).take (p+k)++D++((P++Z).take p++M++(P++Z).drop (p+k)).drop (p+k+d))=P++M++D:=by
 rw [List.take_left' hP,←List.drop_drop,List.drop_left' hP,List.take_left' (by rw [z2,hP,hM]),←List.drop_drop,List.drop_left' (by rw [z2,hP,hM]),List.drop_eq_nil_of_le (by rw [z7];omega),List.append_nil]
theorem aA {V P M D:List Value} {p k d:Nat} (hp:V.take p=P) (hP:P.length=p) (hM:M.length=k) (hD:D.length=d) (hV:V.length=p+k+d):
  ((V.take (p+k)++D++V.drop (p+k+d)).take p++M++(V.take (p+k)++D++V.drop (p+k+d)).drop (p+k))=P++M++D:=by
 have h1:(V.take (p+k)).length=p+k:=by rw [z6];omega
 rw [List.drop_eq_nil_of_le (by omega),List.append_nil,List.drop_left' h1,List.take_append_of_le_length (by omega),List.take_take,Nat.min_eq_left (by omega),hp]
theorem JX (m:Av):(AY m).length=7:=rfl
theorem KR (l:List Av) (i:Nat):(Bf l).take (i*7)=Bf (l.take i)∧(Bf l).drop (i*7)=Bf (l.drop i):=by
 induction l generalizing i with
 | nil=>simp [Bf]
 | cons x r ih=>
  rcases i with _ | i
  ·simp [Bf]
  ·obtain ⟨h1,h2⟩:=ih i
   have e:Bf (x::r)=AY x++Bf r:=rfl
   rw [e,show (i+1)*7=7+i*7 by omega]
   have hx:(AY x).length=7:=rfl
   rw [List.take_append,za (by omega),hx,Nat.add_sub_cancel_left,h1,←List.drop_drop,List.drop_left' hx,h2]
   exact ⟨rfl,rfl⟩
theorem Yj {n c:Nat} {a:Addr} {l:List Av} {h0:AA} (hr:Rd h0 (some a) (Bf l)) (hl:l.length=n) (hn:n≤1000):
  AG Tryz.prog 128 [.slice (some a) n c] h0 fun v h'=>St h0.size h0 h' [CJ v l]:=by
 have st:=St.start h0
 refine BE Tryz.func128 rfl fun _=>Bq ?_
 refine xv (Ji rfl) ?_
 rintro v hp hnew
 replace st:=st.new hnew
 refine AC ?_
 refine BN (BY st 0 rfl (hr.ext st.low) (by rw [CX,hl]) (NR _) (by rw [CX];simp;omega) rfl rfl rfl rfl rfl rfl rfl) rfl rfl rfl fun v hp st=> ?_
 simp only [z0,z1]at st
 refine AF ?_
 rw [z4]at st
 exact st
theorem Yk {n c:Nat} {h0:AA}:
  AG Tryz.prog 128 [.slice none n c] h0 fun v h'=>St h0.size h0 h' [CJ v []]:=by
 refine BE Tryz.func128 rfl fun _=>Bb ?_
 exact (St.start h0).nilrow _ _
theorem Om {n c:Nat} {A:Option Addr} {l:List Av} {h0:AA} (hr:Rd h0 A (Bf l)) (hl:l.length=n) (hn:n≤1000):
  AG Tryz.prog 128 [.slice A n c] h0 fun v h'=>St h0.size h0 h' [CJ v l]:=by
 rcases A with _ | a
 ·rcases l with _ | ⟨x,r⟩
  ·exact Yk
  ·rcases hr with h | ⟨_,_,h,_⟩
   ·cases h
   ·cases h
 ·exact Yj hr hl hn
theorem TQ {B n c i p:Nat} {A:Option Addr} {l:List Av} {m:Av} {F:List AE} {h0:AA} (st0:St B h0 h0 (CJ (.slice A n c) l::pt p 92 (AY m)::F)) (hi:i≤n) (hn:n≤1000):
  AG Tryz.prog 107 [.slice A n c,nV i,.slice (some ⟨p,0,none⟩) 1 1] h0 fun v h'=>St B h0 h' (CJ v (l.take i++m::l.drop i)::F):=by
 have st:=st0
 obtain ⟨hlen,hrd⟩:=st.rdS 0 rfl
 rw [CX]at hlen
 have hlen:l.length=n:=by omega
 obtain ⟨_,_,_,e',_,hnc,hcm,_⟩:=st.row 0 rfl
 cases e'
 have hv:∀ {hp:AA} {j:Nat} {rs:List AE},St B h0 hp rs→rs[j]? =some (pt p 92 (AY m))→Rd hp (some ⟨p,0,none⟩) (AY m):=fun st hj=> .inr ⟨p,0,rfl,fun i u hu=>by rw [Nat.zero_add];exact st.cell _ hj hu⟩
 have hres:Bf (l.take i++m::l.drop i)=(Bf l).take (i*7)++AY m++(Bf l).drop (i*7):=by
  rw [(KR l i).1,(KR l i).2];simp [Bf]
 have hml:=CX l
 refine Bg Tryz.func107 rfl fun _=>AP ?_
 refine xa (FD rfl rfl rfl hi hnc) (iL ?_)
 refine AK rfl (fun h=> ?_) (fun h=> ?_)
 ·refine AJ ?_
  refine BN (BY st 0 rfl (hv st (j:=1) rfl) (rfl) (Cl m) (by rw [CX];simp;omega) rfl rfl rfl rfl rfl rfl rfl) rfl rfl rfl fun v hp st=> ?_
  simp only [z0,z1]at st
  refine AF ?_
  have h:=Int.ofNat.inj h
  have st:=st.sw.tail
  show St B h0 _ (CJ _ (l.take i++m::l.drop i)::F)
  unfold CJ
  rw [hres,za (by omega),List.drop_eq_nil_of_le (by omega),List.append_nil]
  exact st
 ·have hin:i<n:=by
   have:i≠n:=fun e=>h (by rw [e])
   omega
  obtain ⟨gb,_,_,e',_,_,_,hrd⟩:=st.row0 0 rfl (by rw [CX];omega)
  cases e'
  refine AP ?_
  refine xa (bw rfl rfl rfl) (AB ?_)
  refine AK rfl (fun h=> ?_) (fun h=> ?_)
  ·refine AH ?_
   rw [H1]
   refine AJ ?_
   refine xa (Bk rfl rfl (by omega) (by simp only [AI];omega)) ?_
   refine xv (cL (m:=n+1-i) (zs:=[AU [],nV 0,nV 0,nV 0,nV 0,.int .u32 0,nV 0]) (hrd.take (i*7)) (by rw [z6,CX];omega) (by omega) (by omega) (by omega) rfl rfl rfl rfl rfl rfl rfl rfl) ?_
   rintro v hp hnew
   replace st:=st.new hnew
   rw [(KR l i).1]at st
   have hPl:(Bf (l.take i)).length=i*7:=by rw [CX,z6,Nat.min_eq_left (by omega)]
   have hDl:((Bf l).drop (i*7)).length=(n-i)*7:=by rw [z7,hml,hlen];omega
   obtain ⟨Z,hZ⟩:∃Z,(List.replicate (n+1-i) ([AU [],nV 0,nV 0,nV 0,nV 0,.int .u32 0,nV 0]:List Value)).flatten=Z:=⟨_,rfl⟩
   have hZl:Z.length=7+(n-i)*7:=by rw [←hZ];simp;omega
   rw [hZ]at st
   obtain ⟨g2,n2,c2,rfl,hn2,hnc2,_,_⟩:=st.row0 0 rfl (by rw [z2];omega)
   rw [z2,hPl,hZl]at hn2
   obtain rfl:n2=n+1:=by omega
   refine AL ?_
   refine xa (FD rfl rfl rfl (by omega) hnc2) ?_
   rw [GN (by omega)]
   refine AC ?_
   refine xv (Nn st 0 (o:=i*7) (m:=1) (n':=n+1-i) rfl (hv st (j:=2) rfl) (by rw [Nat.min_eq_left (by omega)];rfl) (Cl m) (by rw [Nat.min_eq_left (by omega),z2,hPl,hZl];omega) rfl rfl rfl rfl) ?_
   rintro _ hp ⟨rfl,st⟩
   simp only [z0,Nat.min_eq_left (show 1≤n+1-i by omega)]at st
   refine AO ?_
   refine xa (FD (l:=i+1) rfl rfl rfl (by omega) hnc2) ?_
   rw [GN (by omega)]
   refine AB ?_
   refine xa (FD rfl rfl rfl hi hnc) ?_
   rw [GN (by omega)]
   refine xv (Nn st 0 (o:=(i+1)*7) (m:=n-i) (n':=n+1 - (i+1)) rfl ((st.rdS 1 rfl).2.off (i*7)) (by rw [Nat.min_eq_left (by omega),hDl]) (fun u hu=>NR l u (List.mem_of_mem_drop hu)) (by rw [Nat.min_eq_left (by omega)];simp only [z2,z6,z7,hPl,hZl];have:(AY m).length=7:=rfl;omega) rfl rfl rfl rfl) ?_
   rintro _ hp ⟨rfl,st⟩
   simp only [z0,Nat.min_eq_left (show n-i≤n+1 - (i+1) by omega)]at st
   rw [show (i+1)*7=i*7+7 by omega,show i*7+1*7=i*7+7 by omega,Z9 (k:=7) hPl (JX m) hDl hZl]at st
   refine AO ?_
   show St B h0 _ (CJ _ (l.take i++m::l.drop i)::F)
   unfold CJ
   rw [hres,(KR l i).1]
   exact ((st.sw.tail).sw.tail)
  ·refine AP ?_
   rw [H1]
   obtain ⟨ex,hexl,st⟩:=st.longer 0 (k:=1) rfl (by omega)
   simp only [z0]at st
   have hDl:((Bf l).drop (i*7)).length=(n-i)*7:=by rw [z7,hml,hlen];omega
   refine BP ?_
   refine xa (FD (l:=i+1) rfl rfl rfl (by omega) (by omega)) ?_
   rw [GN (by omega)]
   refine xv (cG st 0 1 (t:=81) (tR:=4) rfl rfl (by decide) (by rw [z2,hml];omega) (LG (f:=158) rfl (by kernel_rfl) (by kernel_rfl) (by kernel_rfl) (by kernel_rfl)) rfl rfl rfl) ?_
   rintro _ hp ⟨rfl,st⟩
   refine Aj ?_
   refine xa (FD (l:=i+1) rfl rfl rfl (by omega) (by omega)) ?_
   rw [GN (by omega)]
   refine AB ?_
   refine xa (FD rfl rfl rfl (by omega) (by omega)) ?_
   rw [GN (by omega)]
   have hrdD:Rd hp (some ⟨gb,i*7,none⟩) ((Bf l).drop (i*7)):=by
    have:=((st.rdS 0 rfl).2.take (n*7)).off (i*7)
    rwa [List.take_left' (by rw [hml,hlen])]at this
   refine xv (Nn st 0 (o:=(i+1)*7) (m:=n+1-i) (n':=n+1 - (i+1)) rfl hrdD (by rw [Nat.min_eq_right (by omega),hDl];omega) (fun u hu=>NR l u (List.mem_of_mem_drop hu)) (by rw [Nat.min_eq_right (by omega),z2,hml,hexl];omega) rfl rfl rfl rfl) ?_
   rintro _ hp ⟨rfl,st⟩
   simp only [z0,Nat.min_eq_right (show n+1 - (i+1)≤n+1-i by omega)]at st
   refine AH ?_
   refine xa (FD rfl rfl rfl (by omega) (by omega)) ?_
   rw [GN (by omega)]
   refine AC ?_
   refine xv (Nn st 0 (o:=i*7) (m:=1) (n':=n+1-i) rfl (hv st (j:=1) rfl) (by rw [Nat.min_eq_left (by omega)];rfl) (Cl m) (by rw [Nat.min_eq_left (by omega)];simp only [z2,z6,z7,hml,hexl];omega) rfl rfl rfl rfl) ?_
   rintro _ hp ⟨rfl,st⟩
   simp only [z0,Nat.min_eq_left (show 1≤n+1-i by omega)]at st
   rw [show (i+1)*7=i*7+7 by omega,show i*7+1*7=i*7+7 by omega,show i*7+7+(n+1 - (i+1))*7=i*7+7+(n-i)*7 by omega,aA (k:=7) (List.take_append_of_le_length (by rw [hml];omega)) (by rw [z6,hml];omega) (JX m) hDl (by rw [z2,hml,hexl];omega)]at st
   refine AO ?_
   show St B h0 _ (CJ _ (l.take i++m::l.drop i)::F)
   unfold CJ
   rw [hres]
   exact st.sw.tail
end Go.Bn
end

section
namespace Go.Bn
open Go Proofs
theorem IW.mem {l:List Av} {s:List UInt8} {i:Nat} (h:IW l s i true):∃m,l[i]? =some m∧m.name=s∧m∈l:=by
 obtain ⟨m,h1,h2⟩:=h.is.1 rfl
 exact ⟨m,h1,h2,List.mem_of_getElem? h1⟩
theorem UC {l:List Av} {i:Nat} {m:Av} (h:i<l.length):(Bf l).take (i*7)++AY m++(Bf l).drop (i*7+7)=Bf (l.set i m):=by
 rw [show i*7+7=(i+1)*7 by omega,(KR l i).1,(KR l (i+1)).2,List.set_eq_take_append_cons_drop,if_pos h]
 simp [Bf]
theorem ZF {B n c i:Nat} {A:Option Addr} {l:List Av} {F:List AE} {h0:AA} (st0:St B h0 h0 (CJ (.slice A n c) l::F)) (hi:i<n) (hn:n≤1000):
  AG Tryz.prog 123 [.slice A n c,nV i,nV (i+1)] h0 fun v h'=>Value.one v=true∧St B h0 h' F:=by
 have st:=st0
 obtain ⟨hlen,_⟩:=st.rdS 0 rfl
 rw [CX]at hlen
 have hlen:l.length=n:=by omega
 obtain ⟨gb,_,_,e',_,hnc,hcm,hrd⟩:=st.row0 0 rfl (by rw [CX];omega)
 cases e'
 refine Bg Tryz.func123 rfl fun _=>Bu ?_
 refine xa (Ua (l:=i) (h:=i+1) (m:=n) rfl rfl rfl rfl rfl (by omega) (by omega) hnc) (AO ?_)
 refine AT (.bool false) (congrArg Value.bool (zu (by omega))) (Bq ?_)
 rw [H1]
 refine AB ?_
 refine xa (FD (l:=i+1) rfl rfl rfl (by omega) hnc) ?_
 refine BN (cH (n:=i) (m:=n - (i+1)) st 0 rfl (news:=(Bf l).drop ((i+1)*7)) (by
  have:=hrd.cut (i+1) 7 c ((n - (i+1))*7) (fun e=>by rw [CX];omega)
  rwa [za (by rw [z7,CX];omega)]at this) (by rw [z7,CX];omega) (fun u hu=>NR l u (List.mem_of_mem_drop hu)) (by omega) rfl rfl rfl rfl) rfl rfl rfl ?_
 rintro _ hp ⟨rfl,vs',st⟩
 rw [z0]at st
 rw [show i+(n - (i+1))=n-1 by omega]at*
 refine AP ?_
 refine xa (Jh (l:=n-1) (h:=n) rfl rfl rfl rfl (by omega) hnc) ?_
 have hcut:Eb (some ⟨gb,0,none⟩) (n-1) 7 c=some ⟨gb,(n-1)*7,none⟩:=GN (by omega)
 rw [hcut]
 refine BT (cJ (zs:=[AU [],nV 0,nV 0,nV 0,nV 0,.int .u32 0,nV 0]) st 0 rfl (by decide) (by omega) (by omega) (by omega) rfl rfl rfl rfl rfl) rfl rfl ?_
 rintro _ hp ⟨vs2,st⟩
 rw [z0]at st
 refine AO ?_
 exact ⟨rfl,st.tail⟩
theorem ON {px n c:Nat} {A:Option Addr} {l:List Av} {s:List UInt8} {h0:AA} (hp:Az h0 ⟨px,0,none⟩=some (.slice A n c)) (hr:Rd h0 A (Bf l)) (hl:l.length=n) (hM:FC l):
  AG Tryz.prog 102 [AM px,AU s] h0 fun v h'=>∃ (i:Nat) (b:Bool),v=Al [nV i,.bool (decide (b=true))]∧IW l s i b∧AV h0 h':=by
 have hn:=hM.len
 refine Ac Tryz.func102 rfl fun _=>BP ?_
 refine xl (hp) rfl (AC ?_)
 refine xk (Ry hr hl (by omega) hM.srt (by kernel_rfl) (fun m h=>gv m s h)) rfl ?_
 rintro _ _ ⟨i,b,rfl,hf,hx⟩
 refine AL ?_
 exact ⟨i,b,by cases b <;> rfl,hf,hx⟩
theorem V9 {n c:Nat} {A:Option Addr} {l:List Av} {s:List UInt8} {h0:AA} (hr:Rd h0 A (Bf l)) (hl:l.length=n) (hn:n≤1000) (hS:FK Av.name l):
  AG Tryz.prog 142 [.slice A n c,AU s] h0 fun v h'=>∃ (i:Nat) (b:Bool),v=Al [nV i,.bool (decide (b=true))]∧IW l s i b∧AV h0 h':=by
 refine Ac Tryz.func142 rfl fun _=>Aj ?_
 refine xk (Ry hr hl hn hS (by kernel_rfl) (fun m h=>eY m s h)) rfl ?_
 rintro _ _ ⟨i,b,rfl,hf,hx⟩
 refine AL ?_
 exact ⟨i,b,by cases b <;> rfl,hf,hx⟩
theorem XH {n c:Nat} {A:Option Addr} {l:List Av} {h0:AA} (hr:Rd h0 A (Bf l)) (hl:l.length=n) (hM:FC l):
  AG Tryz.prog 78 [.slice A n c] h0 fun v h'=>∃px w,v=Al [AM px,nV 0]∧St h0.size h0 h' [pt px 181 [w],CJ w l]:=by
 have hn:=hM.len
 refine BE Tryz.func78 rfl fun _=>Aj ?_
 refine xk (Mx hr hl hM) rfl ?_
 rintro _ hp1 ⟨rfl,hx1⟩
 have st:=(St.start h0).ext hx1
 refine AO ?_
 refine xk (Om (hr.ext hx1) hl (by omega)) rfl ?_
 rintro w hp2 st2
 replace st:=st.join st2
 obtain ⟨A3,n3,c3,rfl,_⟩:=st.row 0 rfl
 refine xa (AZ (ps:=[(0,.slice A3 n3 c3)]) (cs:= #[.slice A3 n3 c3]) rfl rfl) ?_
 refine xb (us:=[.slice A3 n3 c3]) st fun p1 hp st=>AJ ?_
 exact ⟨p1,_,rfl,st⟩
theorem Q9 {px n c:Nat} {A:Option Addr} {l:List Av} {s:List UInt8} {h0:AA} (hp0:Az h0 ⟨px,0,none⟩=some (.slice A n c)) (hr:Rd h0 A (Bf l)) (hl:l.length=n) (hM:FC l):
  AG Tryz.prog 53 [AM px,AU s] h0 fun v h'=>∃ (m:Av) (b:Bool),v=Al [.agg (AY m).toArray,.bool b]∧(b=true→m∈l∧m.name=s)∧(b=false→∀x∈l,x.name≠s)∧AV h0 h':=by
 have hn:=hM.len
 have st:=St.start h0
 refine Ac Tryz.func53 rfl fun _=>AB ?_
 refine xn st fun p4 hp st=>Bq ?_
 refine xk (ON (Bz st.low hp0) (hr.ext st.low) hl hM) rfl ?_
 rintro _ hp2 ⟨i,b,rfl,hf,hx2⟩
 replace st:=st.ext hx2
 refine By ?_
 refine AK rfl (fun h=> ?_) (fun h=> ?_)
 ·obtain rfl:b=false:=by simpa using h
  refine AB ?_
  refine xa (AZ (ps:=[]) (cs:=(AY ⟨[],0,0,0,0,0,0⟩).toArray) rfl (by kernel_rfl)) ?_
  refine xw (us:=AY ⟨[],0,0,0,0,0,0⟩) st 0 (Cl _) fun hp st=> ?_
  simp only [z0]at st
  refine AB ?_
  refine Af (.cons (Ax (vs:=AY ⟨[],0,0,0,0,0,0⟩) rfl rfl rfl (st.cells 0 rfl)) (.cons (.tmp rfl) .nil)) ?_
  refine ⟨⟨[],0,0,0,0,0,0⟩,false,rfl,fun e=>absurd e (by decide),fun _ x hx e=> ?_,st.low⟩
  obtain ⟨k,hk⟩:=List.mem_iff_getElem?.1 hx
  have:=hf.is.2
  rcases Nat.lt_trichotomy k i with h1 | h1 | h1
  ·have:=hf.lo k x hk h1
   rw [e,Hh]at this;cases this
  ·subst h1;exact absurd (hf.is.2 ⟨x,hk,e⟩) (by decide)
  ·obtain ⟨y,hy⟩:∃y,l[i]? =some y:=⟨_,z9 (by have:=(zc.1 hk).1;omega)⟩
   have h2:=hf.hi i y hy (Nat.le_refl _)
   have h3:=Qm hM.srt hy hk h1
   rw [e]at h3;rw [h3]at h2;cases h2
 ·obtain rfl:b=true:=by simpa using h
  obtain ⟨m,hm,hs,hml⟩:=hf.mem
  have hil:=(zc.1 hm).1
  obtain ⟨bb,o,rfl,hc0⟩:=Rd.flat AY 7 hr (fun _=>rfl) (by omega) (by omega)
  have hcs:=fun z u (h:(AY m)[z]? =some u)=>Bz (a:=⟨bb,o+i*7+z,none⟩) st.low (hc0 i hil z u (by rw [(zc.1 hm).2];exact h))
  refine AL ?_
  refine xl (Bz st.low hp0) rfl (AC ?_)
  refine xa (Bp (i:=i) rfl rfl rfl (by omega)) ?_
  refine xa (Ai (vs:=AY m) hcs rfl rfl rfl rfl) ?_
  refine xw (us:=AY m) st 0 (Cl _) fun hp st=> ?_
  simp only [z0]at st
  refine AB ?_
  refine Af (.cons (Ax (vs:=AY m) rfl rfl rfl (st.cells 0 rfl)) (.cons (.tmp rfl) .nil)) ?_
  exact ⟨m,true,rfl,fun _=>⟨hml,hs⟩,fun e=>absurd e (by decide),st.low⟩
theorem RA {px n c:Nat} {A:Option Addr} {l:List Av} {s:List UInt8} {h0:AA} (hp0:Az h0 ⟨px,0,none⟩=some (.slice A n c)) (hr:Rd h0 A (Bf l)) (hl:l.length=n) (hM:FC l) (hn:n<200):
  AG Tryz.prog 57 [AM px,AU s] h0 fun v h'=>v= .bool true∧AV h0 h':=by
 refine Ac Tryz.func57 rfl fun _=>Bb ?_
 refine xk (ON hp0 hr hl hM) rfl ?_
 rintro _ hp2 ⟨i,b,rfl,hf,hx2⟩
 refine BP ?_
 refine Am 16 rfl (fun h=> ?_) (fun h=> ?_)
 ·refine BP ?_
  exact ⟨rfl,hx2⟩
 ·refine AF ?_
  refine xl (Bz hx2 hp0) rfl (AB ?_)
  refine AT (.bool true) (congrArg Value.bool (decide_eq_true (by omega))) (AJ ?_)
  exact ⟨rfl,hx2⟩
theorem g0 {B px:Nat} {w:Value} {l:List Av} {m:Av} {F:List AE} {h0:AA} (st0:St B h0 h0 (pt px 181 [w]::CJ w l::F)) (hM:FC l) (hn:l.length<200) (hm:JY m):
  AG Tryz.prog 61 [AM px,.agg (AY m).toArray] h0 fun v h'=>v=nV 0∧∃w',St B h0 h' (pt px 181 [w']::CJ w' (Bx Av.name m l)::F):=by
 have st:=st0
 obtain ⟨A,n,c,rfl,hlen,hnc,_,_⟩:=st.row 1 rfl
 rw [CX]at hlen
 obtain rfl:l.length=n:=by omega
 refine Ac Tryz.func61 rfl fun _=>AB ?_
 refine xb (us:=AY m) st fun p3 hp st=>Aj ?_
 refine xa (Ai (vs:=AY m) (st.cells 0 rfl) rfl rfl rfl rfl) ?_
 refine xk (Oy hm _) rfl ?_
 rintro _ hp1 ⟨rfl,hx1⟩
 replace st:=st.ext hx1
 refine Aj ?_
 refine xc st 0 0 ?_
 refine xk (RA (st.cell 1 (i:=0) rfl rfl) (st.rdS 2 rfl).2 rfl hM hn) rfl ?_
 rintro _ hp2 ⟨rfl,hx2⟩
 replace st:=st.ext hx2
 refine BP ?_
 refine xc st 0 0 ?_
 refine xk (ON (st.cell 1 (i:=0) rfl rfl) (st.rdS 2 rfl).2 rfl hM) rfl ?_
 rintro _ hp3 ⟨i,b,rfl,hf,hx3⟩
 replace st:=st.ext hx3
 have hins:=hf.ins
 refine Bu ?_
 refine AK rfl (fun h=> ?_) (fun h=> ?_)
 ·obtain rfl:b=true:=h
  obtain ⟨m1,hm1,_,_⟩:=hf.mem
  have hil:=(zc.1 hm1).1
  obtain ⟨gb,_,_,e',_,_,_,_⟩:=st.row0 2 rfl (by rw [CX];omega)
  cases e'
  refine AJ ?_
  refine xc st 1 0 ?_
  refine AC ?_
  refine xa (Ai (vs:=AY m) (st.cells 0 rfl) rfl rfl rfl rfl) ?_
  refine xa (Bp (i:=i) rfl rfl rfl (by omega)) ?_
  refine BT (Uk (us:=AY m) st 2 rfl rfl rfl rfl rfl (Cl m) (by rw [CX,JX];omega)) rfl rfl fun _ hp st=> ?_
  simp only [z0,z1]at st
  rw [JX,Nat.zero_add,UC hil]at st
  refine AL ?_
  rw [hins,if_pos rfl]
  exact ⟨rfl,_,st.tail⟩
 ·obtain rfl:b=false:=by simpa using h
  refine AH ?_
  refine xc st 1 0 ?_
  refine AC ?_
  refine xa (Ai (vs:=AY m) (st.cells 0 rfl) rfl rfl rfl rfl) ?_
  refine BW (Ul (us:=AY m) rfl rfl rfl rfl (by kernel_rfl)) rfl rfl rfl (fun _ _ ⟨_,_,h⟩=>h.1) ?_
  rintro _ hp ⟨pv,rfl,hnew⟩
  replace st:=st.new hnew
  refine xk (TQ (st.here.sel 4 [3,0,1,2]) hf.le (by omega)) rfl ?_
  rintro w4 hp4 st4
  replace st:=st.trans st4
  simp only [BU,BV,An]at st
  obtain ⟨A4,n4,c4,rfl,_⟩:=st.row 0 rfl
  refine AB ?_
  refine xj st 2 fun hp st=> ?_
  simp only [z0,z1]at st
  refine AL ?_
  rw [hins,if_neg (by decide)]
  exact ⟨rfl,_,(st.sel 3 [2,0])⟩
theorem gt {B px:Nat} {w:Value} {l:List Av} {s:List UInt8} {F:List AE} {h0:AA} (st0:St B h0 h0 (pt px 181 [w]::CJ w l::F)) (hM:FC l):
  AG Tryz.prog 74 [AM px,AU s] h0 fun v h'=>(∃b,v= .bool b)∧St B h0 h' F:=by
 have st:=st0
 have hn:=hM.len
 obtain ⟨A,n,c,rfl,hlen,hnc,_,_⟩:=st.row 1 rfl
 rw [CX]at hlen
 obtain rfl:l.length=n:=by omega
 refine Ac Tryz.func74 rfl fun _=>Bb ?_
 refine xk (ON (st.cell 0 (i:=0) rfl rfl) (st.rdS 1 rfl).2 rfl hM) rfl ?_
 rintro _ hp2 ⟨i,b,rfl,hf,hx2⟩
 replace st:=st.ext hx2
 refine Bu ?_
 refine AK rfl (fun h=> ?_) (fun h=> ?_)
 ·obtain rfl:b=true:=h
  obtain ⟨m,hm,_⟩:=hf.mem
  have hil:=(zc.1 hm).1
  refine AH ?_
  refine xc st 0 0 ?_
  refine AF ?_
  refine xk (ZF (st.here.sw) hil (by omega)) rfl ?_
  rintro u hp3 ⟨h1,st3⟩
  replace st:=st.trans st3
  refine AB ?_
  refine BT (FE st 0 rfl rfl rfl rfl rfl h1) rfl rfl fun _ hp st=> ?_
  simp only [z0]at st
  refine AO ?_
  exact ⟨⟨_,rfl⟩,st.tail⟩
 ·refine AO ?_
  exact ⟨⟨_,rfl⟩,st.tail.tail⟩
theorem XE {px n c:Nat} {A:Option Addr} {l:List Av} {h0:AA} (hp0:Az h0 ⟨px,0,none⟩=some (.slice A n c)) (hr:Rd h0 A (Bf l)) (hl:l.length=n) (hn:n≤1000):
  AG Tryz.prog 76 [AM px] h0 fun v h'=>St h0.size h0 h' [CJ v l]:=by
 refine BE Tryz.func76 rfl fun _=>EY ?_
 refine xl (hp0) rfl ?_
 refine xk (Om hr hl hn) rfl ?_
 rintro u hp3 st
 refine AF ?_
 exact st
theorem XF {px n c:Nat} {A:Option Addr} {l:List Av} {h0:AA} (hp0:Az h0 ⟨px,0,none⟩=some (.slice A n c)) (hr:Rd h0 A (Bf l)) (hl:l.length=n) (hM:FC l):
  AG Tryz.prog 73 [AM px] h0 fun v h'=>v=nV ((Bw l).length+20)∧AV h0 h':=by
 have hn:=hM.len
 have hdl:=Fz hM.ok
 refine BE Tryz.func73 rfl fun _=>EY ?_
 refine xl (hp0) rfl ?_
 refine xk (ZN hr hl (by omega) hM.ok) rfl ?_
 rintro _ _ ⟨rfl,hx⟩
 refine xa (CH (n:=20) rfl rfl (by simp only [AI];omega)) (AF ?_)
 exact ⟨rfl,hx⟩
end Go.Bn
end

section
namespace Go.Bn
open Go Proofs
theorem NN (a b:List AS):AX (a++b)=AX a++AX b:=by simp [AX]
theorem At.ent {b:List UInt8} {p:Nat} {s r:List AS} {x:AS} (h:At b p (AX (s++x::r))):At b (p+(AX s).length) x.rb:=by
 rw [NN,show AX (x::r)=x.rb++AX r by simp [AX]]at h
 exact h.right.left
theorem JT (s:List AS) (x:AS):(AX (s++[x])).length=(AX s).length+x.rb.length:=by rw [JU,z2]
theorem T0:∀ (s:List AS),s.length≤(AX s).length
 | []=>by simp [AX]
 | x::r=>by
  have:=T0 r
  have:=x.rb_len
  simp only [AX,zt,z2,ze]at*;omega
theorem LT {s r:List AS} {x:AS}:(AX (s++[x])).length≤(AX (s++x::r)).length:=by
 rw [show s++x::r=(s++[x])++r by simp,NN (s++[x]),z2];omega
theorem NU:∀ (n:Nat) (l:List AS),l.length=n→n≤200→(∀e∈l,e.ok)→1024+(AX l).length≤1073741824→FC (mems l)∧(mems l).length≤n
 | 0,l,h,_,_,_=>by
  obtain rfl:=List.eq_nil_of_length_eq_zero h
  exact ⟨⟨by simp [mems,Cf,Fi],List.Pairwise.nil,fun m hm=>by simp [mems,Cf,Fi]at hm⟩,by simp [mems,Cf,Fi]⟩
 | n+1,l,h,hn,hok,hlen=>by
  have hne:l≠[]:=fun e=>by rw [e]at h;cases h
  have e:=List.dropLast_concat_getLast hne
  obtain ⟨s,hs⟩:∃s,l.dropLast=s:=⟨_,rfl⟩
  obtain ⟨x,hx⟩:∃x,l.getLast hne=x:=⟨_,rfl⟩
  rw [hs,hx]at e
  subst e
  rw [JT]at hlen
  obtain ⟨ih,ih2⟩:=NU n s (by simpa using h) (by omega) (fun y hy=>hok y (List.mem_append_left _ hy)) (by omega)
  have hl:=NA (nm:=Av.name) (x:=Cc (1024+(AX s).length,x)) (l:=mems s)
  rw [NV]
  refine ⟨⟨by omega,TP ih.srt,fun m hm=> ?_⟩,by omega⟩
  rcases LO hm with rfl | hm
  ·exact (hok x (by simp)).mem_ok ⟨by omega,by omega⟩
  ·exact ih.ok m hm
theorem Vz {n c e:Nat} {A:Option Addr} (h:1024≤e∧e≤n) (h0:AA):AG Tryz.prog 184 [.slice A n c,nV e] h0 fun v h'=>v= .bool true∧h0=h':=by
 refine Ac Tryz.func184 rfl fun _=>AP ?_
 refine AT (.bool true) (congrArg Value.bool (decide_eq_true (by omega))) (AH ?_)
 refine AT (.bool true) (congrArg Value.bool (decide_eq_true (by omega))) (AJ ?_)
 exact ⟨rfl,rfl⟩
theorem eR {tp n c p en:Nat} {A:Option Addr} {b:List UInt8} {e:AS} {h0:AA} (ht:CN h0 tp) (hr:Rd h0 A (b.map AN)) (hl:b.length=n) (hm:n≤1099511627776) (hnc:n≤c) (hA:At b p e.rb) (hok:e.ok) (hp:p+e.rb.length≤en):
  AG Tryz.prog 185 [AM tp,.slice A n c,nV p,nV en] h0 fun v h'=>v=Al [.agg (EX (Cc (p,e)) (p+e.rb.length)).toArray,nV 0]∧AV h0 h':=by
 have st:=St.start h0
 obtain ⟨cs,hcs⟩:∃cs,EX (Cc (p,e)) (p+e.rb.length)=cs:=⟨_,rfl⟩
 have hc1:∀u∈cs,Value.one u=true:=by rw [←hcs];exact Ir _ _
 have hc8:cs[8]? =some (nV (p+e.rb.length)):=by rw [←hcs];rfl
 have hcl:cs.length=9:=by rw [←hcs];rfl
 refine Gx Tryz.func185 rfl fun _=>AB ?_
 refine xn st fun p8 hp st=>AO ?_
 refine xk (Vh (ht.ext st.low) (hr.ext st.low) hl hm hnc hA hok) rfl ?_
 rintro _ hp2 ⟨rfl,hx2⟩
 replace st:=st.ext hx2
 rw [hcs]at*
 refine AF ?_
 refine xn st fun p10 hp st=> ?_
 refine BT (D3 (us:=cs) st 0 rfl rfl rfl rfl (by rw [hcl];rfl) hc1 (by rw [hcl];rfl)) rfl rfl fun _ hp st=> ?_
 simp only [z0]at st
 refine Bq ?_
 refine xl (st.cell 0 (i:=8) rfl hc8) rfl (AB ?_)
 refine AT (.bool false) (congrArg Value.bool (zu (by omega))) (AO ?_)
 refine xa (Ai (vs:=cs) (st.cells 0 rfl) rfl rfl hcl rfl) ?_
 refine BT (D3 (us:=cs) st 1 rfl rfl rfl rfl (by rw [hcl];rfl) hc1 (by rw [hcl];rfl)) rfl rfl fun _ hp st=> ?_
 simp only [z0,z1]at st
 refine AB ?_
 refine Af (.cons (Ax (vs:=cs) rfl rfl hcl (st.cells 1 rfl)) (.cons (.tmp rfl) .nil)) ?_
 exact ⟨rfl,st.low⟩
theorem N6 {tp n c en:Nat} {A:Option Addr} {h0:AA}:AG Tryz.prog 141 [AM tp,.slice A n c,nV en] h0 fun v h'=>∃p1 p2 p3,v= .func (.func 186) #[] #[AM p2,AM p3,AM p1]∧St h0.size h0 h' [pt p3 3 [nV en],pt p2 23 [.slice A n c],pt p1 86 [AM tp]]:=by
 refine Bg Tryz.func141 rfl fun _=> ?_
 have st:=St.start h0
 refine AB ?_
 refine xv (Bv rfl rfl) ?_
 rintro _ hp ⟨p1,rfl,hnew⟩
 replace st:=st.new hnew
 refine xv (Bv rfl rfl) ?_
 rintro _ hp ⟨p2,rfl,hnew⟩
 replace st:=st.new hnew
 refine xv (Bv rfl rfl) ?_
 rintro _ hp ⟨p3,rfl,hnew⟩
 replace st:=st.new hnew
 refine AP ?_
 exact ⟨_,_,_,rfl,st⟩
theorem N5 {B y p1 p2 p3 tp n c en:Nat} {A:Option Addr} {b:List UInt8} {l:List AS} {F:List AE} {h0:AA} (JR:List AS→List AE)
  (st0:St B h0 h0 (pt p3 3 [nV en]::pt p2 23 [.slice A n c]::pt p1 86 [AM tp]::(JR []++F)))
  (ht:∀h',BC B h0 h'→CN h' tp) (hrB:∀h',BC B h0 h'→Rd h' A (b.map AN)) (hl:b.length=n) (hn:n≤1099511627776) (hnc:n≤c) (hen:1024+(AX l).length=en) (hfit:en≤n) (hA:At b 1024 (AX l)) (hok:∀e∈l,e.ok)
  (hround:∀ (s:List AS) (x:AS) (r:List AS) (F':List AE) (h:AA),BC B h0 h→s++x::r=l→St B h h (JR s++F')→FJ Tryz.prog y [nV s.length,.agg (EX (Cc (1024+(AX s).length,x)) (1024+(AX (s++[x])).length)).toArray] h fun u h'=>u= .bool true∧St B h h' (JR (s++[x])++F')):
  AG Tryz.prog 186 [.func (.yield y) #[] #[],AM p2,AM p3,AM p1] h0 fun _ h'=>St B h0 h' (JR l++F):=by
 refine Gx Tryz.func186 rfl fun _=> ?_
 have st:=st0
 refine AF ?_
 refine xc st 1 0 ?_
 refine xc st 0 0 ?_
 refine xk (Vz (e:=en) ⟨by omega,hfit⟩ _) rfl ?_
 rintro _ _ ⟨rfl,rfl⟩
 refine BP ?_
 refine BD (fun s=>en - (1024+(AX s.1).length)) (fun s=>[(0,.func (.yield y) #[] #[]),(1,AM p2),(2,AM p3),(3,AM p1),(5,nV s.1.length),(6,nV (1024+(AX s.1).length))])
  (fun (s:List AS×List AS) hp=>s.1++s.2=l∧St B h0 hp (pt p3 3 [nV en]::pt p2 23 [.slice A n c]::pt p1 86 [AM tp]::(JR s.1++F)))
  ([],l) (CL rfl rfl rfl rfl rfl rfl) ⟨rfl,st⟩ ?_
 clear st st0
 rintro ⟨s,r⟩ hp ⟨hs,st⟩
 simp only at hs st ⊢
 refine AJ ?_
 refine xc st 0 0 ?_
 refine AB ?_
 refine AK rfl (fun h=> ?_) (fun h=> ?_)
 ·rcases r with _ | ⟨x,r⟩
  ·rw [List.append_nil]at hs
   subst hs
   exact absurd h (by omega)
  subst hs
  have hxl:=x.rb_len
  have hle:=LT (s:=s) (r:=r) (x:=x)
  have hsn:=JT s x
  refine AH ?_
  refine xc st 2 0 ?_
  refine xc st 1 0 ?_
  refine AC ?_
  refine xc st 0 0 ?_
  refine xk (eR (p:=1024+(AX s).length) (ht _ st.low) (hrB _ st.low) hl hn hnc hA.ent (hok x (by simp)) (by omega)) rfl ?_
  rintro _ hp2 ⟨rfl,hx2⟩
  replace st:=st.ext hx2
  rw [show 1024+(AX s).length+x.rb.length=1024+(AX (s++[x])).length by omega]
  have hrd:=hround s x r
  obtain ⟨cs,hcs⟩:∃cs,EX (Cc (1024+(AX s).length,x)) (1024+(AX (s++[x])).length)=cs:=⟨_,rfl⟩
  have hc1:∀u∈cs,Value.one u=true:=by rw [←hcs];exact Ir _ _
  have hc8:cs[8]? =some (nV (1024+(AX (s++[x])).length)):=by rw [←hcs];rfl
  have hcl:cs.length=9:=by rw [←hcs];rfl
  rw [hcs]at hrd ⊢
  refine AF ?_
  refine xn st fun p7 hp st=> ?_
  refine BT (D3 (us:=cs) st 0 rfl rfl rfl rfl (by rw [hcl];rfl) hc1 (by rw [hcl];rfl)) rfl rfl fun _ hp st=> ?_
  simp only [z0]at st
  refine BP ?_
  refine xa (Ai (vs:=cs) (st.cells 0 rfl) rfl rfl hcl rfl) ?_
  have st3:=st.perm (zb [_,_,_,_] (JR s) F)
  refine Ia (Io rfl (hrd _ _ st3.low rfl st3.here) rfl) rfl rfl rfl ?_
  rintro _ hp3 ⟨rfl,st4⟩
  replace st:=(st3.trans st4).perm (zb (JR (s++[x])) [pt p7 187 cs,pt p3 3 [nV en],pt p2 23 [.slice A n c],pt p1 86 [AM tp]] F)
  refine AO ?_
  refine xl (st.cell 0 (i:=8) rfl hc8) rfl (AH ?_)
  refine xa (CH (n:=1) rfl rfl (by simp only [AI];have:=T0 s;omega)) (AB ?_)
  exact Ad (s++[x],r) (.cons rfl (.cons rfl (.cons rfl (.cons rfl (.cons (by rw [z2];rfl) (N4 rfl)))))) ⟨by simp,st.tail⟩ (by simp only;omega)
 ·refine AB ?_
  rcases r with _ | ⟨x,r⟩
  ·rw [List.append_nil]at hs
   subst hs
   exact st.tail.tail.tail
  ·have hle:=LT (s:=s) (r:=r) (x:=x)
   have hsn:=JT s x
   have:=x.rb_len
   rw [hs]at hle
   omega
end Go.Bn
end

section
namespace Go.Bn
open Go Proofs
theorem eO {n c nx:Nat} {A:Option Addr} {l:List Av} {m:Av} {h0:AA} (hr:Rd h0 A (Bf l)) (hl:l.length=n) (hn:n≤900) (hS:FK Av.name l):
  AG Tryz.prog 182 [.slice A n c,.agg (EX m nx).toArray] h0 fun v h'=>St h0.size h0 h' [CJ v (Bx Av.name m l)]:=by
 have st:=St.start h0
 refine Ac Tryz.func182 rfl fun _=>AB ?_
 refine xb (us:=EX m nx) st fun p3 hp st=>AH ?_
 refine xk (Om (hr.ext st.low) hl (by omega)) rfl ?_
 rintro v hp2 st2
 replace st:=st.join st2
 simp only [z5,z4]at st
 obtain ⟨A5,n5,c5,rfl,hlen5,hnc5,_,hrd5⟩:=st.row 0 rfl
 rw [CX]at hlen5
 obtain rfl:l.length=n5:=by omega
 refine AO ?_
 refine xc st 1 1 ?_
 refine xk (V9 hrd5 rfl (by omega) hS) rfl ?_
 rintro _ hp3 ⟨i,b,rfl,hf,hx3⟩
 replace st:=st.ext hx3
 have hins:=hf.ins
 refine By ?_
 refine Am 20 rfl (fun h=> ?_) (fun h=> ?_)
 ·obtain rfl:b=true:=h
  rw [if_pos rfl]at hins
  obtain ⟨m1,hm1,_,_⟩:=hf.mem
  have hil:=(zc.1 hm1).1
  obtain ⟨gb,_,_,e',_,_,_,_⟩:=st.row0 0 rfl (by rw [CX];omega)
  cases e'
  refine AC ?_
  refine xc st 1 0 ?_
  refine BP ?_
  refine xc st 1 0 ?_
  refine Aj ?_
  refine xa (Ai (vs:=AY m) (st.part 1 1 [nV 1] (AY m) [nV nx] rfl rfl) rfl rfl rfl rfl) ?_
  refine xa (Bp (i:=i) rfl rfl rfl (by omega)) ?_
  refine BT (Uk (us:=AY m) st 0 rfl rfl rfl rfl rfl (Cl m) (by rw [CX,JX];omega)) rfl rfl fun _ hp st=> ?_
  simp only [z0,z1]at st
  rw [JX,Nat.zero_add,UC hil]at st
  refine AP ?_
  show St h0.size h0 _ [CJ _ (Bx Av.name m l)]
  rw [hins]
  exact st.sel 2 [0]
 ·obtain rfl:b=false:=by simpa using h
  rw [if_neg (by decide)]at hins
  refine HQ ?_
  refine xc st 1 0 ?_
  refine AP ?_
  refine xa (Ai (vs:=AY m) (st.part 1 1 [nV 1] (AY m) [nV nx] rfl rfl) rfl rfl rfl rfl) ?_
  refine xv (Ul (us:=AY m) rfl rfl rfl rfl (by kernel_rfl)) ?_
  rintro _ hp ⟨pv,rfl,hnew⟩
  replace st:=st.new hnew
  refine xk (TQ (st.here.sw) hf.le (by omega)) rfl ?_
  rintro w4 hp4 st4
  replace st:=st.trans st4
  refine Aj ?_
  show St h0.size h0 _ [CJ _ (Bx Av.name m l)]
  rw [hins]
  exact st.sel 2 [0]
theorem V0 {tp n c en:Nat} {A:Option Addr} {b:List UInt8} {l:List AS} {h0:AA} (ht:CN h0 tp) (hr:Rd h0 A (b.map AN)) (hl:b.length=n) (hn:n≤1099511627776) (hnc:n≤c) (hen:1024+(AX l).length=en) (hfit:en≤n) (hA:At b 1024 (AX l)) (hok:∀e∈l,e.ok):
  AG Tryz.prog 140 [AM tp,.slice A n c,nV en] h0 fun v h'=>v=Al [nV en,nV 0]∧AV h0 h':=by
 have st:=St.start h0
 refine Bg Tryz.func140 rfl fun _=>BP ?_
 refine xk (Vz (e:=en) ⟨by omega,hfit⟩ _) rfl ?_
 rintro _ _ ⟨rfl,rfl⟩
 refine AL ?_
 refine xn st fun p8 hp st=> ?_
 refine xj st 0 fun hp st=> ?_
 simp only [z0,z1]at st
 refine AO ?_
 refine xk (N6) rfl ?_
 rintro _ hp ⟨p1,p2,p3,rfl,st2⟩
 replace st:=st.join st2
 simp only [z5,z4]at st
 refine AB ?_
 refine GL st rfl rfl (by kernel_rfl) fun fn tmps L y d hp1 hL hok' hx1 st1=> ?_
 replace st1:=st1.sel 6 [2,3,4,0,5,1]
 simp only [BU,BV,An]at st1
 refine AG.mono (N5 (B:=h0.size) (y:=y) (F:=[BG d (.deferred (some []))]) (fun s=>[BG y (L .ready none),pt p8 3 [nV (1024+(AX s).length)]]) st1.here (fun h' hlow=>ht.ext (st1.low.trans hlow)) (fun h' hlow=>hr.ext (st1.low.trans hlow)) hl hn hnc hen hfit hA hok ?_) ?_
 ·intro s x r F' h hlow hs st2
  subst hL
  simp only [z5,z4]at st2
  obtain ⟨cs,hcs⟩:∃cs,EX (Cc (1024+(AX s).length,x)) (1024+(AX (s++[x])).length)=cs:=⟨_,rfl⟩
  have hc1:∀u∈cs,Value.one u=true:=by rw [←hcs];exact Ir _ _
  have hc8:cs[8]? =some (nV (1024+(AX (s++[x])).length)):=by rw [←hcs];rfl
  have hcl:cs.length=9:=by rw [←hcs];rfl
  rw [hcs]
  refine GZ (st2.obj_at 0 rfl) hok' rfl rfl fun w0 hw0=> ?_
  simp only [E2]
  have st:=st2
  refine AC ?_
  refine xn st fun p10 hp st=> ?_
  refine BT (D3 (us:=cs) st 0 rfl rfl rfl rfl (by rw [hcl];rfl) hc1 (by rw [hcl];rfl)) rfl rfl fun _ hp st=> ?_
  simp only [z0]at st
  refine AC ?_
  refine GJ (st.obj_at 1 rfl) ?_
  replace st:=st.loop 1 .busy none rfl
  simp only [z0,z1]at st
  refine AF ?_
  refine xl (st.cell 0 (i:=8) rfl hc8) rfl ?_
  refine xj st 2 fun hp st=> ?_
  simp only [z0,z1]at st
  refine AB ?_
  refine FL (st.obj_at 1 rfl) ⟨rfl,?_⟩
  replace st:=st.loop 1 .ready none rfl
  simp only [z0,z1]at st
  exact st.tail
 rintro v h' st2
 simp only [z5,z4]at st2
 refine .inl ⟨_,st1.trans st2,fun hp3 st=> ?_⟩
 refine AJ ?_
 refine xc st 1 0 ?_
 refine AB ?_
 refine AT (.bool true) (congrArg Value.bool (decide_eq_true (by omega))) (AP ?_)
 refine Gg (d:=d) (.cons (.tmp rfl) (.cons (.tmp rfl) .nil)) ?_ (st.obj_at 2 rfl)
 replace st:=st.put 2 (.deferred none) rfl
 exact ⟨rfl,st.low⟩
theorem NS {l s r:List AS} (h:s++r=l) (hok:∀e∈l,e.ok) (hn:l.length≤200) (hlen:1024+(AX l).length≤1073741824):FC (mems s)∧(mems s).length≤s.length:=by
 subst h
 rw [NN,z2]at hlen
 rw [z2]at hn
 exact NU s.length s rfl (by omega) (fun e he=>hok e (List.mem_append_left _ he)) (by omega)
theorem Qf {tp n c en:Nat} {A:Option Addr} {b:List UInt8} {l:List AS} {h0:AA} (ht:CN h0 tp) (hr:Rd h0 A (b.map AN)) (hl:b.length=n) (hn:n≤1073741824) (hnc:n≤c) (hen:1024+(AX l).length=en) (hfit:en≤n) (hA:At b 1024 (AX l)) (hok:∀e∈l,e.ok) (hll:l.length≤200):
  AG Tryz.prog 138 [AM tp,.slice A n c,nV en] h0 fun v h'=>∃w,v=Al [w,nV en,nV 0]∧St h0.size h0 h' [CJ w (mems l)]:=by
 have st:=St.start h0
 refine Bg Tryz.func138 rfl fun _=>AB ?_
 refine xn st fun p6 hp st=>Aj ?_
 refine xk (V0 (ht.ext st.low) (hr.ext st.low) hl (by omega) hnc hen hfit hA hok) rfl ?_
 rintro _ hp1 ⟨rfl,hx1⟩
 replace st:=st.ext hx1
 refine Fv ?_
 refine xk (N6) rfl ?_
 rintro _ hp ⟨p1,p2,p3,rfl,st2⟩
 replace st:=st.join st2
 simp only [z5,z4]at st
 refine AB ?_
 refine GL st rfl rfl (by kernel_rfl) fun fn tmps L y d hp1 hL hok' hx1 st1=> ?_
 replace st1:=(st1.nilrow 92 7).sel 7 [3,4,5,1,6,0,2]
 simp only [BU,BV,An]at st1
 have st1':St h0.size h0 hp1 (pt p3 3 [nV en]::pt p2 23 [.slice A n c]::pt p1 86 [AM tp]::([BG y (L .ready none),Cb fun v=>CD (pt p6 81 [v]) (CJ v (mems []))]++[BG d (.deferred (some []))])):=by
  have s1:=st1.sel 7 [4,5,0,1,2,3,6]
  simp only [BU,BV,An]at s1
  have s2:St h0.size h0 hp1 ((Cb fun v=>CD (pt p6 81 [v]) (CJ v (mems [])))::_):=St.ex.2 ⟨Value.slice none 0 0,St.star.2 s1⟩
  exact s2.sel 6 [1,2,3,4,0,5]
 refine AG.mono (N5 (B:=h0.size) (y:=y) (F:=[BG d (.deferred (some []))]) (fun s=>[BG y (L .ready none),Cb fun v=>CD (pt p6 81 [v]) (CJ v (mems s))]) st1'.here (fun h' hlow=>ht.ext (st1.low.trans hlow)) (fun h' hlow=>hr.ext (st1.low.trans hlow)) hl (by omega) hnc hen hfit hA hok ?_) ?_
 ·intro s x r F' h hlow hs st2
  subst hL
  simp only [z5,z4]at st2
  obtain ⟨v,st2⟩:=St.ex.1 (st2.sel 2 [1,0])
  have st:=St.star.1 st2
  obtain ⟨hMs,hMl⟩:=NS hs hok hll (by omega)
  have hsl:s.length≤200:=by rw [←hs,z2]at hll;omega
  obtain ⟨A5,n5,c5,rfl,hlen5,hnc5,_,hrd5⟩:=st.row 1 rfl
  rw [CX]at hlen5
  obtain ⟨m,hm⟩:∃m,Cc (1024+(AX s).length,x)=m:=⟨_,rfl⟩
  have hsn:=NV s x
  rw [hm]at hsn ⊢
  refine GZ (st.obj_at 2 rfl) hok' rfl rfl fun w0 hw0=> ?_
  simp only [E2]
  refine AC ?_
  refine xn st fun p10 hp st=> ?_
  refine xw (us:=EX m (1024+(AX (s++[x])).length)) st 0 (Ir _ _) fun hp st=> ?_
  simp only [z0]at st
  refine AC ?_
  refine GJ (st.obj_at 3 rfl) ?_
  replace st:=st.loop 3 .busy none rfl
  simp only [z0,z1]at st
  refine AB ?_
  refine xc st 1 0 ?_
  refine xa (Ai (vs:=EX m (1024+(AX (s++[x])).length)) (st.cells 0 rfl) rfl rfl rfl rfl) ?_
  refine xk (eO (st.rdS 2 rfl).2 (by omega) (by omega) hMs.srt) rfl ?_
  rintro v3 hp3 st3
  rw [←hsn]at st3
  replace st:=st.join st3
  simp only [z5,z4]at st
  obtain ⟨A6,n6,c6,rfl,_⟩:=st.row 0 rfl
  refine xj st 2 fun hp st=> ?_
  simp only [z0,z1]at st
  refine AB ?_
  refine FL (st.obj_at 4 rfl) ⟨rfl,?_⟩
  replace st:=st.loop 4 .ready none rfl
  simp only [z0,z1]at st
  have s6:=st.sel 5 [2,0,4]
  simp only [BU,BV,An]at s6
  have s7:St h0.size h _ ((Cb fun v=>CD (pt p6 81 [v]) (CJ v (mems (s++[x]))))::_):=St.ex.2 ⟨_,St.star.2 s6⟩
  exact s7.sel 2 [1,0]
 rintro v h' st2
 simp only [z5,z4]at st2
 refine .inl ⟨_,st1.trans st2,fun hp3 st=> ?_⟩
 obtain ⟨v9,st⟩:=St.ex.1 (st.sel 2 [1,0])
 replace st:=St.star.1 st
 obtain ⟨hMs,hMl⟩:=NS (List.append_nil l) hok hll (by omega)
 obtain ⟨A5,n5,c5,rfl,hlen5,hnc5,_,hrd5⟩:=st.row 1 rfl
 rw [CX]at hlen5
 refine AJ ?_
 refine xc st 0 0 ?_
 refine AB ?_
 refine AT (.bool false) (congrArg Value.bool (zu (by omega))) (AH ?_)
 refine xc st 0 0 ?_
 refine AC ?_
 refine xj st 0 fun hp st=> ?_
 simp only [z0,z1]at st
 refine AF ?_
 have stp:=st.put 3 (.deferred none) rfl
 rw [←MJ]at stp
 refine Gg (d:=d) (.cons (Hu rfl rfl (stp.cell 0 (i:=0) rfl rfl)) (.cons (.tmp rfl) (.cons (.tmp rfl) .nil))) ?_ (st.obj_at 3 rfl)
 replace st:=st.put 3 (.deferred none) rfl
 exact ⟨_,rfl,st.sel 4 [1]⟩
end Go.Bn
end

section
namespace Go.Bn
open Go Proofs
theorem eP {tp n c en:Nat} {A:Option Addr} {b:List UInt8} {l:List AS} {h0:AA} (ht:CN h0 tp) (hr:Rd h0 A (b.map AN)) (hl:b.length=n) (hn:n≤1073741824) (hnc:n≤c) (hen:1024+(AX l).length=en) (hfit:en≤n) (hA:At b 1024 (AX l)) (hok:∀e∈l,e.ok) (hll:l.length≤200):
  AG Tryz.prog 90 [AM tp,.slice A n c,nV en] h0 fun v h'=>v=Al [nV l.length,nV 0,nV 0]∧AV h0 h':=by
 have st:=St.start h0
 refine Bg Tryz.func90 rfl fun _=>AB ?_
 refine xn st fun p6 hp st=> ?_
 refine xn st fun p7 hp st=>AB ?_
 refine Hx rfl (fun _ _ _ hh=>hh) (AL ?_)
 refine xk (V0 (ht.ext st.low) (hr.ext st.low) hl (by omega) hnc hen hfit hA hok) rfl ?_
 rintro _ hp1 ⟨rfl,hx1⟩
 replace st:=st.ext hx1
 refine Hp ?_
 refine xk (N6) rfl ?_
 rintro _ hp ⟨p1,p2,p3,rfl,st2⟩
 replace st:=st.join st2
 simp only [z5,z4]at st
 refine AB ?_
 refine GL st rfl rfl (by kernel_rfl) fun fn tmps L y d hp1 hL hok' hx1 st1=> ?_
 replace st1:=st1.sel 7 [2,3,4,0,5,6,1]
 simp only [BU,BV,An]at st1
 refine AG.mono (N5 (B:=h0.size) (y:=y) (F:=[BG d (.deferred (some []))]) (fun s=>[BG y (L .ready none),pt p7 3 [nV 0],pt p6 3 [nV s.length]]) st1.here (fun h' hlow=>ht.ext (st1.low.trans hlow)) (fun h' hlow=>hr.ext (st1.low.trans hlow)) hl (by omega) hnc hen hfit hA hok ?_) ?_
 ·intro s x r F' h hlow hs st2
  subst hL
  simp only [z5,z4]at st2
  have hsl:s.length≤200:=by rw [←hs,z2]at hll;omega
  obtain ⟨cs,hcs⟩:∃cs,EX (Cc (1024+(AX s).length,x)) (1024+(AX (s++[x])).length)=cs:=⟨_,rfl⟩
  have hc1:∀u∈cs,Value.one u=true:=by rw [←hcs];exact Ir _ _
  have hc0:cs[0]? =some (nV 1):=by rw [←hcs];rfl
  have hcl:cs.length=9:=by rw [←hcs];rfl
  rw [hcs]
  refine GZ (st2.obj_at 0 rfl) hok' rfl rfl fun w0 hw0=> ?_
  simp only [E2]
  have st:=st2
  refine AC ?_
  refine xn st fun p10 hp st=> ?_
  refine BT (D3 (us:=cs) st 0 rfl rfl rfl rfl (by rw [hcl];rfl) hc1 (by rw [hcl];rfl)) rfl rfl fun _ hp st=> ?_
  simp only [z0]at st
  refine AC ?_
  refine GJ (st.obj_at 1 rfl) ?_
  replace st:=st.loop 1 .busy none rfl
  simp only [z0,z1]at st
  refine AH ?_
  refine xl (st.cell 0 (i:=0) rfl hc0) rfl (AH ?_)
  refine xc st 3 0 ?_
  refine AC ?_
  refine xj st 3 fun hp st=> ?_
  simp only [z0,z1]at st
  refine AB ?_
  refine FL (st.obj_at 1 rfl) ⟨rfl,?_⟩
  replace st:=st.loop 1 .ready none rfl
  simp only [z0,z1]at st
  rw [show s.length+1=(s++[x]).length by simp]at st
  exact st.tail
 rintro v h' st2
 simp only [z5,z4]at st2
 refine .inl ⟨_,st1.trans st2,fun hp3 st=> ?_⟩
 refine AB ?_
 refine HV H0 [0] 1 [2,3,4] 2 [1,3,4] (by kernel_rfl) (by kernel_rfl) rfl rfl rfl ?_
 refine xc st 2 0 ?_
 refine AC ?_
 refine HT (σ:=Unit) (fun _=>[(6,AM p6),(7,AM p7),(8,nV 0)]) (fun _ hp=>St h0.size h0 hp [pt p7 3 [nV 0],pt p6 3 [nV l.length],BG d (.deferred (some []))]) ?_ ?_ ?_
 ·refine xc st 1 0 ?_
  refine xj st 2 fun hp st=> ?_
  simp only [z0,z1]at st
  refine xj st 1 fun hp st=> ?_
  simp only [z0,z1]at st
  refine AB ?_
  exact C7 () (DJ rfl rfl rfl) st.tail
 ·refine xj st 2 fun hp st=> ?_
  simp only [z0,z1]at st
  refine xc st 1 0 ?_
  refine xj st 1 fun hp st=> ?_
  simp only [z0,z1]at st
  refine AB ?_
  exact C7 () (DJ rfl rfl rfl) st.tail
 rintro _ hp st
 have stp:=st.put 2 (.deferred none) rfl
 rw [←MJ]at stp
 refine Gg (d:=d) (.cons (Hu rfl rfl (stp.cell 1 (i:=0) rfl rfl)) (.cons (Hu rfl rfl (stp.cell 0 (i:=0) rfl rfl)) (.cons (.tmp rfl) .nil))) ?_ (st.obj_at 2 rfl)
 exact ⟨rfl,stp.low⟩
theorem eS {tp n c en:Nat} {A:Option Addr} {b:List UInt8} {l:List AS} {h0:AA} (ht:CN h0 tp) (hr:Rd h0 A (b.map AN)) (hl:b.length=n) (hn:n≤1073741824) (hnc:n≤c) (hen:1024+(AX l).length=en) (hfit:en≤n) (hA:At b 1024 (AX l)) (hok:∀e∈l,e.ok) (hll:l.length≤200):
  AG Tryz.prog 91 [AM tp,.slice A n c,nV en] h0 fun v h'=>(∃a:Int,v=Al [.int .i64 a,nV 0])∧AV h0 h':=by
 obtain ⟨hMs,hMl⟩:=NS (List.append_nil l) hok hll (by omega)
 refine Bg Tryz.func91 rfl fun _=>BP ?_
 refine xk (Qf ht hr hl hn hnc hen hfit hA hok hll) rfl ?_
 rintro _ hp1 ⟨w,rfl,st⟩
 obtain ⟨A5,n5,c5,rfl,hlen5,hnc5,_,hrd5⟩:=st.row 0 rfl
 rw [CX]at hlen5
 refine AJ ?_
 refine xn st fun p8 hp st=> ?_
 refine xj st 0 fun hp st=> ?_
 simp only [z0,z1]at st
 refine Bq ?_
 refine xa (Bk (n:=1024) rfl rfl (by omega) (by simp only [AI];omega)) ?_
 refine xn st fun p11 hp st=> ?_
 refine xj st 0 fun hp st=> ?_
 simp only [z0,z1]at st
 refine AO ?_
 refine xk (N6) rfl ?_
 rintro _ hp ⟨p1,p2,p3,rfl,st2⟩
 replace st:=st.join st2
 simp only [z5,z4]at st
 refine AB ?_
 refine GL st rfl rfl (by kernel_rfl) fun fn tmps L y d hp1 hL hok' hx1 st1=> ?_
 replace st1:=st1.sel 8 [5,2,3,4,0,6,7,1]
 simp only [BU,BV,An]at st1
 have st1':St h0.size h0 hp1 ((Cb fun a:Int=>pt p11 3 [.int .i64 a])::_):=St.ex.2 ⟨_,st1⟩
 replace st1:=st1'.sel 8 [1,2,3,0,4,5,6,7]
 simp only [BU,BV,An]at st1
 refine AG.mono (N5 (B:=h0.size) (y:=y) (F:=[BG d (.deferred (some []))]) (fun s=>[Cb fun a:Int=>pt p11 3 [.int .i64 a],BG y (L .ready none),pt p8 81 [.slice A5 n5 c5],CJ (.slice A5 n5 c5) (mems l)]) st1.here (fun h' hlow=>ht.ext (st1.low.trans hlow)) (fun h' hlow=>hr.ext (st1.low.trans hlow)) hl (by omega) hnc hen hfit hA hok ?_) ?_
 ·intro s x r F' h hlow hs st2
  subst hL
  simp only [z5,z4]at st2
  obtain ⟨a,st⟩:=St.ex.1 st2
  have hsl:s.length≤200:=by rw [←hs,z2]at hll;omega
  have hlb:=LT (s:=s) (r:=r) (x:=x)
  rw [hs]at hlb
  have hls:=JT s x
  have hml:(Cc (1024+(AX s).length,x)).at_=1024+(AX s).length:=rfl
  obtain ⟨m,hm⟩:∃m,Cc (1024+(AX s).length,x)=m:=⟨_,rfl⟩
  rw [hm]at hml ⊢
  obtain ⟨nx,hnx⟩:∃nx,1024+(AX (s++[x])).length=nx:=⟨_,rfl⟩
  rw [hnx]
  refine GZ (st.obj_at 1 rfl) hok' rfl rfl fun w0 hw0=> ?_
  simp only [E2]
  refine AC ?_
  refine xn st fun p13 hp st=> ?_
  refine xw (us:=EX m nx) st 0 (Ir _ _) fun hp st=> ?_
  simp only [z0]at st
  refine AC ?_
  refine GJ (st.obj_at 2 rfl) ?_
  replace st:=st.loop 2 .busy none rfl
  simp only [z0,z1]at st
  refine AF ?_
  refine xc st 3 0 ?_
  refine AB ?_
  refine xc st 0 1 ?_
  refine xk (V9 (st.rdS 4 rfl).2 (by omega) (by omega) hMs.srt) rfl ?_
  rintro _ hp3 ⟨i,bb,rfl,hf,hx3⟩
  replace st:=st.ext hx3
  refine BP ?_
  refine Am 44 rfl (fun h=> ?_) (fun h=> ?_)
  ·obtain rfl:bb=true:=h
   obtain ⟨m1,hm1,_,_⟩:=hf.mem
   have hil:=(zc.1 hm1).1
   obtain ⟨gb,o,rfl,hc0⟩:=Rd.flat AY 7 (st.rdS 4 rfl).2 (fun _=>rfl) (by omega) (by omega)
   refine AC ?_
   refine xc st 0 0 ?_
   refine AF ?_
   refine xc st 3 0 ?_
   refine AC ?_
   refine xa (Bp (i:=i) rfl rfl rfl (by omega)) ?_
   refine xa (Ai (vs:=AY m1) (fun z u hz=>hc0 i hil z u (by rw [(zc.1 hm1).2];exact hz)) rfl rfl rfl rfl) (AC ?_)
   refine xa (Ai (vs:=AY m) (st.part 0 1 [nV 1] (AY m) [nV nx] rfl rfl) rfl rfl rfl rfl) ?_
   refine xa (bz rfl rfl (Sg (ks:=[.str,.i .i64,.i .i64,.i .i64,.i .i64,.i .u32,.i .i64]) (by kernel_rfl) (by kernel_rfl) rfl rfl) (by kernel_rfl)) (AB ?_)
   refine C6 rfl (fun h=> ?_) (fun h=> ?_)
   ·refine GK ((Ck [(2,.grow)])) [0,1,2,3,4] (by kernel_rfl) (by kernel_rfl) rfl ?_
    refine xc st 1 0 ?_
    refine xa (Ai (vs:=EX m nx) (st.cells 0 rfl) rfl rfl rfl rfl) ?_
    refine BW (CT (dv (by omega) (by omega) _) rfl (by kernel_rfl)) rfl rfl rfl (fun _ _ h=>h.2) ?_
    rintro _ hp5 ⟨rfl,hx5⟩
    replace st:=st.ext hx5
    refine xa (II rfl rfl) ?_
    refine xj st 1 fun hp st=> ?_
    simp only [z0,z1]at st
    refine AB ?_
    refine FL (st.obj_at 2 rfl) ⟨rfl,?_⟩
    replace st:=st.loop 2 .ready none rfl
    simp only [z0,z1]at st
    exact St.ex.2 ⟨_,st.tail⟩
   ·refine AB ?_
    refine FL (st.obj_at 2 rfl) ⟨rfl,?_⟩
    replace st:=st.loop 2 .ready none rfl
    simp only [z0,z1]at st
    exact St.ex.2 ⟨_,st.tail⟩
  ·refine EY ?_
   refine FL (st.obj_at 2 rfl) ⟨rfl,?_⟩
   replace st:=st.loop 2 .ready none rfl
   simp only [z0,z1]at st
   exact St.ex.2 ⟨_,st.tail⟩
 rintro v h' st2
 simp only [z5,z4]at st2
 refine .inl ⟨_,(st1.trans st2).sw,fun hp3 st=> ?_⟩
 obtain ⟨a,st⟩:=St.ex.1 st.sw
 refine AF ?_
 refine xc st 0 0 ?_
 refine AF ?_
 have stp:=st.put 4 (.deferred none) rfl
 rw [←MJ]at stp
 refine Gg (d:=d) (.cons (.tmp rfl) (.cons (.tmp rfl) .nil)) ?_ (st.obj_at 4 rfl)
 exact ⟨⟨_,rfl⟩,stp.low⟩
theorem QH {e m d:Nat} (h:e+m+d≤2097152) (h0:AA):AG Tryz.prog 115 [nV e,nV m,nV d] h0 fun v h'=>v= .bool true∧h0=h':=by
 refine Bg Tryz.func115 rfl fun _=>Bq ?_
 refine xa (AZ (ps:=[(0,nV e),(1,nV m),(2,nV d)]) (cs:= #[nV e,nV m,nV d]) rfl rfl) (AF ?_)
 refine BD (fun s=>3-s) (fun s=>[(7,nV (2097152 - (([e,m,d]:List Nat).take s).sum)),(13,.agg #[nV e,nV m,nV d]),(14,nV s)])
  (fun (s:Nat) hp=>s≤3∧h0=hp) 0 (DJ rfl rfl rfl) ⟨Nat.zero_le _,rfl⟩ ?_
 rintro s hp ⟨hs,rfl⟩
 refine AH ?_
 refine AK rfl (fun h=> ?_) (fun h=> ?_)
 ·obtain ⟨q,hix,h1,h2⟩:∃q:Nat,(#[nV e,nV m,nV d]:Array Value)[s]? =some (nV q)∧(([e,m,d]:List Nat).take (s+1)).sum=(([e,m,d]:List Nat).take s).sum+q∧(([e,m,d]:List Nat).take s).sum+q≤2097152:=by
   have h3:s=0∨s=1∨s=2:=by omega
   rcases h3 with rfl | rfl | rfl
   ·exact ⟨e,rfl,by simp,by simp;omega⟩
   ·exact ⟨m,rfl,by simp,by simp;omega⟩
   ·exact ⟨d,rfl,by simp;omega,by simp;omega⟩
  obtain ⟨S,hS⟩:∃S,(([e,m,d]:List Nat).take s).sum=S:=⟨_,rfl⟩
  rw [hS]at h1 h2 ⊢
  refine AH ?_
  refine xa (Lj rfl rfl rfl (by omega) hix) (AO ?_)
  refine AT (.bool false) (congrArg Value.bool (zu (by omega))) (AJ ?_)
  refine AT (.bool false) (congrArg Value.bool (zu (by omega))) (AO ?_)
  refine xa (Bk rfl rfl (by omega) (by simp only [AI];omega)) ?_
  rw [show 2097152-S-q=2097152 - (([e,m,d]:List Nat).take (s+1)).sum by rw [h1];omega]
  refine AO ?_
  exact Ad (s+1) (DJ rfl rfl rfl) ⟨by omega,rfl⟩ (by omega)
 ·refine AL ?_
  exact ⟨rfl,rfl⟩
end Go.Bn
end

section
namespace Go.Bn
open Go Proofs
def Ey (s n:AQ):AQ×Bool:=if s.right∧s.seq≠2147483647∧(AQ.mk (s.seq+1) n.en n.dir n.cl).right then (⟨s.seq+1,n.en,n.dir,n.cl⟩,true)else (AQ.nil,false)
theorem WE (a b c a' b' c':Int) (d d':Bool) (h0:AA):AG Tryz.prog 167 [.agg #[.int .i64 a,.int .i64 b,.int .i64 c,.bool d],.agg #[.int .i64 a',.int .i64 b',.int .i64 c',.bool d']] h0 fun v h'=>
  v=Al [.agg (BA (Ey ⟨a,b,c,d⟩ ⟨a',b',c',d'⟩).1).toArray,.bool (Ey ⟨a,b,c,d⟩ ⟨a',b',c',d'⟩).2]∧AV h0 h':=by
 refine Ac Tryz.func167 rfl fun _=> ?_
 have st:=St.start h0
 obtain ⟨T,hT⟩:∃T,Ey ⟨a,b,c,d⟩ ⟨a',b',c',d'⟩=T:=⟨_,rfl⟩
 rw [hT]
 unfold Ey at hT
 simp only at hT
 refine AB ?_
 refine xv (Bv rfl rfl) ?_
 rintro _ hp ⟨p,rfl,hnew⟩
 have st:=st.new hnew
 refine xv (Bv rfl rfl) ?_
 rintro _ hp ⟨p,rfl,hnew⟩
 have st:=st.new hnew
 refine xn st fun p4 hp st=>AH ?_
 refine xa (Ai (st.cells 2 rfl) rfl rfl rfl rfl) ?_
 refine xk (OB _ _ _ _ _) rfl ?_
 rintro _ hp ⟨rfl,hx⟩
 replace st:=st.ext hx
 refine xa (Jg rfl) (AC ?_)
 refine Am 9 rfl (fun h=> ?_) (fun h=> ?_)
 ·refine AP ?_
  refine xa (AZ (ps:=[]) (cs:=(BA AQ.nil).toArray) rfl rfl) ?_
  refine xw (us:=BA AQ.nil) st 0 (DB _) fun hp st=> ?_
  simp only [z0,z1]at st
  refine AB ?_
  refine Af (.cons (Ax (vs:=BA AQ.nil) rfl rfl rfl (st.cells 0 rfl)) (.cons (.tmp rfl) .nil)) ?_
  rw [if_neg (fun hh=>h hh.1)]at hT
  exact ⟨by rw [←hT],st.low⟩
 ·refine AC ?_
  refine xc st 2 0 ?_
  refine AF ?_
  refine AK rfl (fun h=> ?_) (fun h=> ?_)
  ·refine AB ?_
   refine xa (AZ (ps:=[]) (cs:=(BA AQ.nil).toArray) rfl rfl) ?_
   refine xw (us:=BA AQ.nil) st 0 (DB _) fun hp st=> ?_
   simp only [z0,z1]at st
   refine AB ?_
   refine Af (.cons (Ax (vs:=BA AQ.nil) rfl rfl rfl (st.cells 0 rfl)) (.cons (.tmp rfl) .nil)) ?_
   rw [if_neg (fun hh=>hh.2.1 h)]at hT
   exact ⟨by rw [←hT],st.low⟩
  ·refine AB ?_
   rename_i hr0
   have hne:a≠2147483647:=h
   have hr:=Decidable.not_not.1 hr0
   have hr2:=hr
   simp only [AQ.right]at hr2
   refine AB ?_
   refine xc st 2 0 ?_
   refine AB ?_
   refine xj st 1 fun hp st=> ?_
   simp only [z0,z1]at st
   refine AJ ?_
   refine xa (Ai (st.cells 1 rfl) rfl rfl rfl rfl) ?_
   refine xk (OB _ _ _ _ _) rfl ?_
   rintro _ hp ⟨rfl,hx⟩
   replace st:=st.ext hx
   refine xa (Jg rfl) (AC ?_)
   refine AK rfl (fun h=> ?_) (fun h=> ?_)
   ·refine AB ?_
    refine xa (AZ (ps:=[]) (cs:=(BA AQ.nil).toArray) rfl rfl) ?_
    refine xw (us:=BA AQ.nil) st 0 (DB _) fun hp st=> ?_
    simp only [z0,z1]at st
    refine AB ?_
    refine Af (.cons (Ax (vs:=BA AQ.nil) rfl rfl rfl (st.cells 0 rfl)) (.cons (.tmp rfl) .nil)) ?_
    rw [if_neg (fun hh=>h hh.2.2)]at hT
    exact ⟨by rw [←hT],st.low⟩
   ·refine AF ?_
    refine xa (Ai (st.cells 1 rfl) rfl rfl rfl rfl) ?_
    refine xw (us:=BA (AQ.mk (a+1) b' c' d')) st 0 (DB _) fun hp st=> ?_
    simp only [z0,z1]at st
    refine AB ?_
    refine Af (.cons (Ax (vs:=BA (AQ.mk (a+1) b' c' d')) rfl rfl rfl (st.cells 0 rfl)) (.cons (.tmp rfl) .nil)) ?_
    rw [if_pos ⟨hr,hne,Decidable.not_not.1 h⟩]at hT
    exact ⟨by rw [←hT],st.low⟩
theorem eT (a b c:Int) (d:Bool) (h0:AA):AG Tryz.prog 117 [.agg #[.int .i64 a,.int .i64 b,.int .i64 c,.bool d]] h0 fun v h'=>
  v=Al [.agg (BA (Ey ⟨a,b,c,d⟩ ⟨0,b,0,false⟩).1).toArray,.bool (Ey ⟨a,b,c,d⟩ ⟨0,b,0,false⟩).2]∧AV h0 h':=by
 refine BE Tryz.func117 rfl fun _=> ?_
 have st:=St.start h0
 refine AB ?_
 refine xv (Bv rfl rfl) ?_
 rintro _ hp ⟨p,rfl,hnew⟩
 have st:=st.new hnew
 refine xn st fun p4 hp st=>AJ ?_
 refine xa (Ai (st.cells 1 rfl) rfl rfl rfl rfl) (AC ?_)
 refine xc st 1 1 ?_
 refine xa (AZ (ps:=[(1,.int .i64 b)]) (cs:= #[.int .i64 0,.int .i64 b,.int .i64 0,.bool false]) rfl rfl) ?_
 refine xk (WE _ _ _ _ _ _ _ _ _) rfl ?_
 rintro _ hp ⟨rfl,hx⟩
 replace st:=st.ext hx
 obtain ⟨T,hT⟩:∃T,Ey ⟨a,b,c,d⟩ ⟨0,b,0,false⟩=T:=⟨_,rfl⟩
 rw [hT]
 refine AB ?_
 refine xw (us:=BA T.1) st 0 (DB _) fun hp st=> ?_
 simp only [z0,z1]at st
 refine AB ?_
 refine Af (.cons (Ax (vs:=BA T.1) rfl rfl rfl (st.cells 0 rfl)) (.cons (.tmp rfl) .nil)) ?_
 exact ⟨rfl,st.low⟩
theorem eQ (a b c e k:Int) (d:Bool) (h0:AA):AG Tryz.prog 127 [.agg #[.int .i64 a,.int .i64 b,.int .i64 c,.bool d],.int .i64 e,.int .i64 k] h0 fun v h'=>
  v=Al [.agg (BA (Ey ⟨a,b,c,d⟩ ⟨0,e,k,true⟩).1).toArray,.bool (Ey ⟨a,b,c,d⟩ ⟨0,e,k,true⟩).2]∧AV h0 h':=by
 refine Bg Tryz.func127 rfl fun _=> ?_
 have st:=St.start h0
 refine AB ?_
 refine xv (Bv rfl rfl) ?_
 rintro _ hp ⟨p,rfl,hnew⟩
 have st:=st.new hnew
 refine xn st fun p4 hp st=>AJ ?_
 refine xa (Ai (st.cells 1 rfl) rfl rfl rfl rfl) (AB ?_)
 refine xa (AZ (ps:=[(1,.int .i64 e),(2,.int .i64 k),(3,.bool true)]) (cs:= #[.int .i64 0,.int .i64 e,.int .i64 k,.bool true]) rfl rfl) ?_
 refine xk (WE _ _ _ _ _ _ _ _ _) rfl ?_
 rintro _ hp ⟨rfl,hx⟩
 replace st:=st.ext hx
 obtain ⟨T,hT⟩:∃T,Ey ⟨a,b,c,d⟩ ⟨0,e,k,true⟩=T:=⟨_,rfl⟩
 rw [hT]
 refine AB ?_
 refine xw (us:=BA T.1) st 0 (DB _) fun hp st=> ?_
 simp only [z0,z1]at st
 refine AB ?_
 refine Af (.cons (Ax (vs:=BA T.1) rfl rfl rfl (st.cells 0 rfl)) (.cons (.tmp rfl) .nil)) ?_
 exact ⟨rfl,st.low⟩
theorem WM {tp:Nat} {s:AQ} {h0:AA} (ht:CN h0 tp) (hs:s.right):AG Tryz.prog 130 [.pointer (some ⟨tp,0,none⟩),.agg (BA s).toArray] h0 fun v h'=>
  ∃v1,v=Al [v1,.int .i64 0]∧St h0.size h0 h' [row 5 1 v1 (s.bytes.map AN)]:=by
 obtain ⟨a,b,c,d⟩:=s
 have hs':=hs
 simp only [AQ.right]at hs'
 have h4:0≤c:=by obtain ⟨_,_,_,_,h5⟩:=hs';split at h5 <;> omega
 obtain ⟨a,rfl⟩:∃x:Nat,a=x:=⟨a.toNat,by omega⟩
 obtain ⟨b,rfl⟩:∃x:Nat,b=x:=⟨b.toNat,by omega⟩
 obtain ⟨c,rfl⟩:∃x:Nat,c=x:=⟨c.toNat,by omega⟩
 exact fH ht hs
theorem Vy (s:AQ) (e k:Int) (h0:AA):AG Tryz.prog 127 [.agg (BA s).toArray,.int .i64 e,.int .i64 k] h0 fun v h'=>
  v=Al [.agg (BA (Ey s ⟨0,e,k,true⟩).1).toArray,.bool (Ey s ⟨0,e,k,true⟩).2]∧AV h0 h':=eQ _ _ _ _ _ _ _
theorem eU (s:AQ) (h0:AA):AG Tryz.prog 117 [.agg (BA s).toArray] h0 fun v h'=>
  v=Al [.agg (BA (Ey s ⟨0,s.en,0,false⟩).1).toArray,.bool (Ey s ⟨0,s.en,0,false⟩).2]∧AV h0 h':=eT _ _ _ _ _
def Gm (o T:AQ×Int):AQ×Int:=if T.2=0∧(o.2≠0∨o.1.seq<T.1.seq)then (T.1,0)else o
def LA (l:List UInt8):AQ×Int:=Gm (Gm (AQ.nil,3) (E3 (l.take 512))) (E3 ((l.drop 512).take 512))
theorem choose_spec {tp n c:Nat} {A:Option Addr} {l:List UInt8} {h0:AA} (ht:CN h0 tp) (hr:Rd h0 A (l.map AN)) (hl:l.length=n) (hn1:1024≤n) (hn2:n≤1099511627776) (hmc:n≤c):
  AG Tryz.prog 136 [.pointer (some ⟨tp,0,none⟩),.slice A n c] h0 fun v h'=>v=Al [.agg (BA (LA l).1).toArray,.int .i64 (LA l).2]∧AV h0 h':=by
 obtain ⟨o1,h1⟩:∃o1,Gm (AQ.nil,3) (E3 (l.take 512))=o1:=⟨_,rfl⟩
 obtain ⟨o2,h2⟩:∃o2,LA l=o2:=⟨_,rfl⟩
 have h3:Gm o1 (E3 ((l.drop 512).take 512))=o2:=by rw [←h1,←h2];rfl
 rw [h2]
 refine Ac Tryz.func136 rfl fun _=> ?_
 have st:=St.start h0
 refine AB ?_
 refine xv (CK rfl) ?_
 rintro _ hp ⟨p4,rfl,hnew⟩
 replace st:=st.new hnew
 refine AJ ?_
 refine xa (AZ (ps:=[]) (cs:=(BA AQ.nil).toArray) rfl rfl) ?_
 refine xv (CK rfl) ?_
 rintro _ hp ⟨p6,rfl,hnew⟩
 replace st:=st.new hnew
 refine xw (us:=BA AQ.nil) st 0 (DB _) fun hp st=> ?_
 simp only [z0,z1]at st
 refine AP ?_
 refine BD (fun s=>2-s.1) (fun s=>[(0,.pointer (some ⟨tp,0,none⟩)),(1,.slice A n c),(4,.pointer (some ⟨p4,0,none⟩)),(6,.pointer (some ⟨p6,0,none⟩)),(7,.int .i64 s.2.2),(8,.int .i64 ((512*s.1:Nat):Int))])
  (fun (s:Nat×AQ×Int) hp=>St h0.size h0 hp [pt p6 80 (BA s.2.1),pt p4 80 (BA AQ.nil)]∧(s.1=0∧s.2=(AQ.nil,3)∨s.1=1∧s.2=o1∨s.1=2∧s.2=o2))
  (0,AQ.nil,3) (CL rfl rfl rfl rfl rfl rfl) ⟨st,.inl ⟨rfl,rfl⟩⟩ ?_
 clear st hnew
 rintro ⟨i,o,e⟩ hp ⟨st,hi⟩
 simp only at st hi ⊢
 have hi2:i≤2:=by omega
 refine AL ?_
 refine Am 14 rfl (fun h=> ?_) (fun h=> ?_)
 ·refine AF ?_
  first | refine AD (Bk (n:=512) rfl rfl (by omega) (by simp only [AI];omega)) rfl rfl ?_ | refine AD (EU rfl rfl (by simp only [AI];omega)) rfl rfl ?_ | refine AD (II rfl rfl) rfl rfl ?_
  refine AF ?_
  refine AK rfl (fun h=> ?_) (fun h=> ?_)
  ·have hi1:i≤1:=by omega
   refine BP ?_
   refine xa (Jh rfl rfl rfl rfl (by omega) (by omega)) ?_
   have hcut:=(hr.ext st.low).cut (512*i) 1 c 512 (by intro hh;simp;omega)
   rw [zf,←List.map_drop,←List.map_take]at hcut
   refine xk (fM (ht.ext st.low) hcut (by rw [z6,z7];omega) (by omega) (by omega)) rfl ?_
   rintro _ hp ⟨rfl,hx3⟩
   replace st:=st.ext hx3
   have hstep:∃o',Gm (o,e) (E3 ((l.drop (512*i)).take 512))=o'∧(i=0∧o'=o1∨i=1∧o'=o2):=by
    refine ⟨_,rfl,?_⟩
    rcases hi with ⟨rfl,hh⟩ | ⟨rfl,hh⟩ | ⟨rfl,hh⟩
    ·rw [hh];exact .inl ⟨rfl,h1⟩
    ·rw [hh];exact .inr ⟨rfl,h3⟩
    ·omega
   obtain ⟨o',hstep,ho'⟩:=hstep
   have hnext:∀z:AQ×Int,z=o'→(i+1=0∧z=(AQ.nil,3)∨i+1=1∧z=o1∨i+1=2∧z=o2):=by
    rintro z rfl
    rcases ho' with ⟨h7,h8⟩ | ⟨h7,h8⟩
    ·exact .inr (.inl ⟨by omega,h8⟩)
    ·exact .inr (.inr ⟨by omega,h8⟩)
   obtain ⟨T,hT⟩:∃T,E3 ((l.drop (512*i)).take 512)=T:=⟨_,rfl⟩
   rw [hT]at hstep ⊢
   unfold Gm at hstep
   simp only at hstep
   refine AF ?_
   refine xv (CK rfl) ?_
   rintro _ hp ⟨p9,rfl,hnew⟩
   replace st:=st.new hnew
   refine xw (us:=BA T.1) st 0 (DB _) fun hp st=> ?_
   simp only [z0,z1]at st
   refine AO ?_
   refine Am 35 rfl (fun h=> ?_) (fun h=> ?_)
   ·refine AF ?_
    refine Am 38 rfl (fun h=> ?_) (fun h=> ?_)
    ·refine BP ?_
     refine xa (Ai (st.cells 0 rfl) rfl rfl rfl rfl) ?_
     refine xw (us:=BA T.1) st 1 (DB _) fun hp st=> ?_
     simp only [z0,z1]at st
     refine AP ?_
     rw [if_pos ⟨by omega,.inl (by omega)⟩]at hstep
     exact Ad (i+1,T.1,0) (CL rfl rfl rfl rfl rfl rfl) ⟨st.tail,hnext _ hstep⟩ (by simp only;omega)
    ·refine AC ?_
     refine xe ?_
     refine AC ?_
     refine xe ?_
     refine AJ ?_
     refine AK rfl (fun h=> ?_) (fun h=> ?_)
     ·refine AC ?_
      refine xa (Ai (st.cells 0 rfl) rfl rfl rfl rfl) ?_
      refine xw (us:=BA T.1) st 1 (DB _) fun hp st=> ?_
      simp only [z0,z1]at st
      refine AP ?_
      rw [if_pos ⟨by omega,.inr (by omega)⟩]at hstep
      exact Ad (i+1,T.1,0) (CL rfl rfl rfl rfl rfl rfl) ⟨st.tail,hnext _ hstep⟩ (by simp only;omega)
     ·refine AO ?_
      rw [if_neg (by omega)]at hstep
      exact Ad (i+1,o,e) (CL rfl rfl rfl rfl rfl rfl) ⟨st.tail,hnext _ hstep⟩ (by simp only;omega)
   ·refine Fv ?_
    rw [if_neg (fun hh=>h (by omega))]at hstep
    exact Ad (i+1,o,e) (CL rfl rfl rfl rfl rfl rfl) ⟨st.tail,hnext _ hstep⟩ (by simp only;omega)
  ·refine AF ?_
   obtain ⟨rfl,ho2⟩:i=2∧o2=(o,e):=by
    refine ⟨by omega,?_⟩
    rcases hi with ⟨rfl,hh⟩ | ⟨rfl,hh⟩ | ⟨rfl,hh⟩
    ·omega
    ·omega
    ·exact hh.symm
   refine xa (Ai (st.cells 0 rfl) rfl rfl rfl rfl) (AC ?_)
   refine xw (us:=BA o) st 1 (DB _) fun hp st=> ?_
   simp only [z0,z1]at st
   refine AB ?_
   refine Af (.cons (Ax (vs:=BA o) rfl rfl rfl (st.cells 1 rfl)) (.cons (.tmp rfl) .nil)) ?_
   rw [ho2]
   exact ⟨rfl,st.low⟩
 ·refine Bu ?_
  obtain ⟨rfl,ho2⟩:i=2∧o2=(o,e):=by
   refine ⟨by omega,?_⟩
   rcases hi with ⟨rfl,hh⟩ | ⟨rfl,hh⟩ | ⟨rfl,hh⟩
   ·omega
   ·omega
   ·exact hh.symm
  refine xa (Ai (st.cells 0 rfl) rfl rfl rfl rfl) (AC ?_)
  refine xw (us:=BA o) st 1 (DB _) fun hp st=> ?_
  simp only [z0,z1]at st
  refine AB ?_
  refine Af (.cons (Ax (vs:=BA o) rfl rfl rfl (st.cells 1 rfl)) (.cons (.tmp rfl) .nil)) ?_
  rw [ho2]
  exact ⟨rfl,st.low⟩
theorem Yg {b:List UInt8} {l:List AS} {s:AQ} (h:Et b l s):LA b=(s,0)∧1024≤b.length:=by
 obtain ⟨so,h1,h2,h3,h4,h5,h6⟩:=h.slots
 have hf:=h.fits
 have b1:=GW so
 have b2:=GW s
 have e0:b.take 512=CC b 0:=by unfold CC;simp
 have e1:(b.drop 512).take 512=CC b 1:=by unfold CC;simp
 have t1:=WD so h1
 have t2:=WD s h2
 have c1:∀x:AQ,Gm (AQ.nil,3) (x,0)=(x,0):=fun x=>by simp [Gm]
 have c2:Gm (so,0) (s,0)=(s,0):=by unfold Gm;rw [if_pos ⟨rfl,.inr h3⟩]
 have c3:Gm (s,0) (so,0)=(s,0):=by
  unfold Gm
  rw [if_neg]
  rintro ⟨_,h | h⟩
  ·exact h rfl
  ·simp only at h;omega
 refine ⟨?_,by omega⟩
 unfold LA
 rw [e0,e1]
 rcases Nat.lt_or_ge (pl s) 1 with hp | hp
 ·rw [show pl s=0 by omega]at h6
  rw [show pl so=1 by omega]at h5
  rw [h6,h5,t1,t2,c1,c3]
 ·rw [show pl s=1 by omega]at h6
  rw [show pl so=0 by omega]at h5
  rw [h6,h5,t1,t2,c1,c2]
end Go.Bn
end

section
namespace Go.Bn
open Go Proofs
theorem LN:∀ (n:Nat) (l:List AS),l.length=n→∀q∈Cf l,∃s r,l=s++q.2::r∧q.1=1024+(AX s).length
 | 0,l,h,q,hq=>by
  obtain rfl:=List.eq_nil_of_length_eq_zero h
  simp [Cf,Fi]at hq
 | n+1,l,h,q,hq=>by
  have hne:l≠[]:=fun e=>by rw [e]at h;cases h
  have e:=List.dropLast_concat_getLast hne
  obtain ⟨s,hs⟩:∃s,l.dropLast=s:=⟨_,rfl⟩
  obtain ⟨x,hx⟩:∃x,l.getLast hne=x:=⟨_,rfl⟩
  rw [hs,hx]at e
  subst e
  rw [PL]at hq
  rcases LO hq with rfl | hq
  ·exact ⟨s,[],rfl,rfl⟩
  ·obtain ⟨s1,r1,h1,h2⟩:=LN n s (by simpa using h) q hq
   exact ⟨s1,r1++[x],by rw [h1];simp,h2⟩
theorem PK {b:List UInt8} {l:List AS} {q:Nat×AS} (hA:At b 1024 (AX l)) (hq:q∈Cf l):At b q.1 q.2.rb∧q.1+q.2.rb.length≤1024+(AX l).length∧1024≤q.1∧q.2∈l:=by
 obtain ⟨s,r,h1,h2⟩:=LN _ l rfl q hq
 have h3:=LT (s:=s) (r:=r) (x:=q.2)
 rw [JT,←h1]at h3
 refine ⟨?_,by omega,by omega,by rw [h1];simp⟩
 rw [h2]
 exact At.ent (h1▸hA)
theorem LW {l:List AS} {m:Av} (hm:m∈mems l):∃q∈Cf l,Cc q=m∧m.frm+m.area≤1024+(AX l).length:=by
 obtain ⟨q,hq,rfl⟩:=List.mem_map.1 hm
 obtain ⟨s,r,h1,h2⟩:=LN _ l rfl q hq
 have h3:=LT (s:=s) (r:=r) (x:=q.2)
 rw [JT,←h1]at h3
 have:=q.2.rb_len
 exact ⟨q,hq,rfl,by simp only [Cc];omega⟩
structure B4 (l:List AS):Prop where
  ok:∀e∈l,e.ok
  len:l.length≤100
  fit:1024+(AX l).length+Em l≤2097152
theorem B4.mems {l:List AS} (h:B4 l):FC (mems l)∧(Bn.mems l).length≤l.length:=by
 have:=h.len
 have:=h.fit
 exact NU _ l rfl (by omega) h.ok (by omega)
theorem Mt {l:List AS} (h:B4 l):20≤Em l∧Em l≤16420∧Em l=(Bw (mems l)).length+20:=by
 obtain ⟨h1,h2⟩:=h.mems
 have h3:=Fz h1.ok
 have h4:=h1.len
 unfold Em
 rw [JL];omega
theorem ML {l:List AS} (h:B4 l) {q:Nat} (hq:q≤2):(Cw q l).right:=by
 obtain ⟨h1,h2,_⟩:=Mt h
 have:=h.fit
 unfold AQ.right Cw
 simp only [if_true]
 omega
theorem R5 {q r d:Nat} (hr:r≤2097152) (h0:AA):AG Tryz.prog 129 [nV q,nV r,nV d] h0 fun v h'=>v= .agg (BA ⟨(q:Nat),(1024+r:Nat),(d:Nat),true⟩).toArray∧AV h0 h':=by
 have st:=St.start h0
 refine Bg Tryz.func129 rfl fun _=>AB ?_
 refine xn st fun p6 hp st=>AH ?_
 refine xa (CH (m:=1024) rfl rfl (by simp only [AI];omega)) (AC ?_)
 refine xa (AZ (ps:=[(0,nV q),(1,nV (1024+r)),(2,nV d),(3,.bool true)]) (cs:=(BA ⟨(q:Nat),(1024+r:Nat),(d:Nat),true⟩).toArray) rfl rfl) ?_
 refine xw (us:=BA ⟨(q:Nat),(1024+r:Nat),(d:Nat),true⟩) st 0 (DB _) fun hp st=> ?_
 simp only [z0]at st
 refine AC ?_
 refine Af (.cons (Ax (vs:=BA ⟨(q:Nat),(1024+r:Nat),(d:Nat),true⟩) rfl rfl rfl (st.cells 0 rfl)) .nil) ?_
 exact ⟨rfl,st.low⟩
theorem R7 {tp n c n2 c2:Nat} {A A2:Option Addr} {l:List AS} {h0:AA} (ht:CN h0 tp) (hr:Rd h0 A ((AX l).map AN)) (hl:(AX l).length=n) (hr2:Rd h0 A2 (Bf (mems l))) (hl2:(mems l).length=n2) (hL:B4 l):
  AG Tryz.prog 79 [AM tp,.slice A n c,.slice A2 n2 c2] h0 fun v h'=>∃w,v=Al [w,nV 0]∧St h0.size h0 h' [row 5 1 w ((CE l).map AN)]:=by
 have hfit:=hL.fit
 have hM:=hL.mems.1
 refine Bg Tryz.func79 rfl fun _=>Aj ?_
 refine xk (Uu ht hr2 hl2 hM) rfl ?_
 rintro _ hp1 ⟨w1,rfl,st⟩
 obtain ⟨A5,n5,c5,rfl,hlen5,hnc5,_,hrd5⟩:=st.row 0 rfl
 rw [z3,zf]at hlen5
 have hlen5:Em l=n5:=hlen5
 refine HQ ?_
 refine xk (QH (e:=1024) (m:=n) (d:=n5) (by omega) _) rfl ?_
 rintro _ _ ⟨rfl,rfl⟩
 refine Bb ?_
 replace st:=st.nilrow 5 1
 refine BD (fun s=>2-s.1) (fun s=>[(0,AM tp),(1,.slice A n c),(8,.slice A5 n5 c5),(10,s.2),(30,nV s.1)])
  (fun (s:Nat×Value) hp=>s.1≤2∧St h0.size h0 hp [row 5 1 s.2 (((List.range s.1).flatMap fun i=>(Cw i l).bytes).map AN),row 5 1 (.slice A5 n5 c5) ((CV (mems l)).map AN)]) (0,_) (CP rfl rfl rfl rfl rfl) ⟨Nat.zero_le _,st⟩ ?_
 clear st hrd5
 rintro ⟨q,v⟩ hp ⟨hq,st⟩
 simp only at hq st ⊢
 refine AH ?_
 refine AK rfl (fun h=> ?_) (fun h=> ?_)
 ·have hrg:=ML hL (q:=q) (by omega)
  have hsl:Cw q l=⟨(q:Nat),(1024+n:Nat),(n5:Nat),true⟩:=by unfold Cw;rw [hl,hlen5]
  have hbl:(((List.range q).flatMap fun i=>(Cw i l).bytes).map AN).length=q*512:=by
   rw [z3]
   have:q=0∨q=1:=by omega
   rcases this with rfl | rfl <;> simp [List.range_succ,AQ.bytes_length]
  refine Bb ?_
  refine xk (R5 (by omega) _) rfl ?_
  rintro _ hp3 ⟨rfl,hx3⟩
  replace st:=st.ext hx3
  rw [←hsl]
  refine xk (WM (ht.ext st.low) hrg) rfl ?_
  rintro _ hp4 ⟨w4,rfl,st4⟩
  replace st:=st.join st4
  simp only [z5,z4]at st
  obtain ⟨A7,n7,c7,rfl,hlen7,hnc7,_,hrd7⟩:=st.row 0 rfl
  refine Aj ?_
  refine BN (BY st 1 rfl (hrd7) (hlen7) (Dl _) (by rw [hbl,z3,AQ.bytes_length];omega) rfl rfl rfl rfl rfl rfl rfl) rfl rfl rfl fun v hp st=> ?_
  simp only [z0,z1]at st
  rw [←List.map_append,show ((List.range q).flatMap fun i=>(Cw i l).bytes)++(Cw q l).bytes=(List.range (q+1)).flatMap fun i=>(Cw i l).bytes by rw [List.range_succ,List.flatMap_append];simp]at st
  refine AO ?_
  exact Ad (q+1,v) (CP rfl rfl rfl rfl rfl) ⟨by simp only;omega,st.tail⟩ (by simp only;omega)
 ·obtain rfl:q=2:=by omega
  have e2:((List.range 2).flatMap fun i=>(Cw i l).bytes)=(Cw 0 l).bytes++(Cw 1 l).bytes:=by simp [List.range_succ]
  rw [e2]at st
  refine AH ?_
  refine BN (BY st 0 rfl (hr.ext st.low) (by rw [z3,hl,zf]) (Dl _) (by simp only [z3,z2,AQ.bytes_length,hl];omega) rfl rfl rfl rfl rfl rfl rfl) rfl rfl rfl fun v hp st=> ?_
  simp only [z0,z1]at st
  refine AC ?_
  refine BN (BY st 0 rfl ((st.rdS 1 rfl).2) ((st.rdS 1 rfl).1) (Dl _) (by simp only [z3,z2,AQ.bytes_length,hl,JL];have:=(Mt hL);omega) rfl rfl rfl rfl rfl rfl rfl) rfl rfl rfl fun v hp st=> ?_
  simp only [z0,z1]at st
  refine AJ ?_
  refine ⟨_,rfl,?_⟩
  have e:CE l=((Cw 0 l).bytes++(Cw 1 l).bytes++AX l)++CV (mems l):=by unfold CE;simp only [z8]
  rw [e,List.map_append,List.map_append]
  exact st.sel 2 [0]
end Go.Bn
end

section
namespace Go.Bn
open Go Proofs
theorem Ym {tp n c:Nat} {A:Option Addr} {b:List UInt8} {l:List AS} {s:AQ} {h0:AA} (ht:CN h0 tp) (hr:Rd h0 A (b.map AN)) (hl:b.length=n) (hn:n≤1073741824) (hnc:n≤c) (hG:Et b l s) (hL:B4 l):
  AG Tryz.prog 137 [AM tp,.slice A n c,.agg (BA s).toArray] h0 fun v h'=>∃w,v=Al [w,nV 0]∧St h0.size h0 h' [CJ w (mems l)]:=by
 obtain ⟨sq,se,sd,cl⟩:=s
 have hen:=hG.en
 have hfit:=hG.fits
 have hdir:=hG.dir
 have hA:=hG.log
 have hll:=hL.len
 have hff:=hL.fit
 obtain ⟨hM,hMl⟩:=hL.mems
 simp only at hen hdir
 subst hen
 obtain ⟨en,hene⟩:∃en,1024+(AX l).length=en:=⟨_,rfl⟩
 rw [hene]at hdir hfit hff ⊢
 have st:=St.start h0
 refine Bg Tryz.func137 rfl fun _=>AB ?_
 refine xb (us:=BA ⟨sq,(en:Nat),sd,cl⟩) st fun p5 hp st=>AF ?_
 refine Hx rfl (fun _ _ _ hh=>hh) (AJ ?_)
 refine xc st 0 3 ?_
 refine AB ?_
 refine C6 rfl (fun h=> ?_) (fun h=> ?_)
 ·refine AH ?_
  refine xc st 0 1 ?_
  refine xk (Qf (ht.ext st.low) (hr.ext st.low) hl hn hnc hene (by omega) hA hL.ok (by omega)) rfl ?_
  rintro _ hp2 ⟨w,rfl,st2⟩
  refine Bb ?_
  exact ⟨w,rfl,(st.join st2).sel 2 [0]⟩
 ·obtain ⟨hd1,hAf⟩:=hdir (by simpa using h)
  subst hd1
  have hfl:=hAf.len (by rw [JL];omega)
  refine AL ?_
  refine xc st 0 1 ?_
  refine AC ?_
  refine xc st 0 1 ?_
  refine AC ?_
  refine xc st 0 2 ?_
  refine xa (CH (m:=en) rfl rfl (by simp only [AI];omega)) ?_
  refine xa (Jh (l:=en) rfl rfl rfl rfl (by omega) (by omega)) ?_
  rw [Nat.add_sub_cancel_left]
  have hcB:Rd hp (Eb A en 1 c) ((CV (mems l)).map AN):=by
   have:=(hr.ext st.low).cut en 1 c (CV (mems l)).length (by intro e;rw [z3];omega)
   rwa [zf,←List.map_drop,←List.map_take,hAf.eq]at this
  refine xk (cY (ht.ext st.low) hcB rfl (by omega) hM) rfl ?_
  rintro _ hp2 ⟨w,rfl,st2⟩
  replace st:=st.join st2
  simp only [z5,z4]at st
  obtain ⟨A5,n5,c5,rfl,hlen5,hnc5,_,hrd5⟩:=st.row 0 rfl
  rw [CX]at hlen5
  refine XM ?_
  have hx0:=st.low
  have st1:=st.here
  refine BD (fun s=>n5-s) (fun s=>[(5,AM p5),(7,nV 0),(11,.slice A5 n5 c5),(12,nV 0),(46,.slice A5 n5 c5),(47,nV n5),(48,nV s)])
   (fun (s:Nat) hp=>s≤n5∧St h0.size h0 hp [CJ (.slice A5 n5 c5) (mems l),pt p5 80 (BA ⟨sq,(en:Nat),((CV (mems l)).length:Nat),cl⟩)]) 0 (Fq rfl rfl rfl rfl rfl rfl rfl) ⟨Nat.zero_le _,st⟩ ?_
  clear st st1 hrd5
  rintro s hp ⟨hs,st⟩
  refine AH ?_
  refine AK rfl (fun h=> ?_) (fun h=> ?_)
  ·obtain ⟨m,hm⟩:∃m,(mems l)[s]? =some m:=⟨_,z9 (by omega)⟩
   obtain ⟨q,_,_,hfa⟩:=LW (List.mem_of_getElem? hm)
   obtain ⟨bb,o,rfl,hc0⟩:=Rd.flat AY 7 (st.rdS 0 rfl).2 (fun _=>rfl) (by omega) (by omega)
   refine AH ?_
   refine xa (Bp (i:=s) rfl rfl rfl (by omega)) ?_
   refine xa (Ai (vs:=AY m) (fun z u hz=>hc0 s (by omega) z u (by rw [(zc.1 hm).2];exact hz)) rfl rfl rfl rfl) ?_
   refine xn st fun p14 hp st=> ?_
   refine xw (us:=AY m) st 0 (Cl m) fun hp st=> ?_
   simp only [z0]at st
   refine AJ ?_
   refine xc st 0 2 ?_
   refine AC ?_
   refine xc st 2 1 ?_
   refine AC ?_
   refine AT (.bool false) (congrArg Value.bool (zu (by simp only;omega))) (AB ?_)
   refine xc st 0 3 ?_
   refine AC ?_
   refine xc st 2 1 ?_
   refine AC ?_
   refine xc st 0 2 ?_
   refine xa (Bk (m:=en) (n:=m.frm) rfl rfl (by omega) (by simp only [AI];omega)) (AC ?_)
   refine AT (.bool false) (congrArg Value.bool (zu (by omega))) (Aj ?_)
   exact Ad (s+1) (Fq rfl rfl rfl rfl rfl rfl rfl) ⟨by omega,st.tail⟩ (by omega)
  ·refine Bb ?_
   exact ⟨_,rfl,st.sel 2 [0]⟩
theorem R9 {tp n c:Nat} {A:Option Addr} {b:List UInt8} {l:List AS} {s:AQ} {h0:AA} (ht:CN h0 tp) (hr:Rd h0 A (b.map AN)) (hl:b.length=n) (hn:n≤1073741824) (hnc:n≤c) (hG:Et b l s) (hL:B4 l):
  AG Tryz.prog 86 [AM tp,.slice A n c] h0 fun v h'=>∃w,v=Al [.agg (BA s).toArray,w,nV 0]∧St h0.size h0 h' [CJ w (mems l)]:=by
 obtain ⟨hch,hn1⟩:=Yg hG
 have hen:=hG.en
 have hfit:=hG.fits
 have hend:∃d:Nat,s.dir=d∧1024+(AX l).length+d≤n:=by
  cases hc:s.cl with
  | true=>
   obtain ⟨h1,h2⟩:=hG.dir hc
   have:=h2.len (by rw [JL];omega)
   exact ⟨_,h1,by omega⟩
  | false=>
   obtain ⟨so,h1,h2,_⟩:=hG.slots
   unfold AQ.right at h2
   rw [if_neg (by rw [hc];simp)]at h2
   exact ⟨0,h2.2.2.2.2,by omega⟩
 obtain ⟨d,hd,hdn⟩:=hend
 obtain ⟨en,hene⟩:∃en,1024+(AX l).length=en:=⟨_,rfl⟩
 have st:=St.start h0
 have hs1:(BA s)[1]? =some (nV en):=by rw [←hene];show some (Value.int .i64 s.en)=_;rw [hen]
 have hs2:(BA s)[2]? =some (nV d):=by show some (Value.int .i64 s.dir)=_;rw [hd]
 rw [hene]at hdn
 refine Ac Tryz.func86 rfl fun _=>AB ?_
 refine xn st fun p4 hp st=>AO ?_
 refine xk (choose_spec (ht.ext st.low) (hr.ext st.low) hl (by omega) (by omega) hnc) rfl ?_
 rintro _ hp2 ⟨rfl,hx2⟩
 replace st:=st.ext hx2
 rw [hch]
 refine AF ?_
 refine xw (us:=BA s) st 0 (DB s) fun hp st=> ?_
 simp only [z0]at st
 refine Bq ?_
 refine xl (st.cell 0 (i:=1) rfl hs1) rfl (AF ?_)
 refine AT (.bool false) (congrArg Value.bool (zu (by omega))) (AB ?_)
 refine xl (st.cell 0 (i:=2) rfl hs2) rfl (AF ?_)
 refine xl (st.cell 0 (i:=1) rfl hs1) rfl ?_
 refine xa (Bk (n:=en) rfl rfl (by omega) (by simp only [AI];omega)) (AC ?_)
 refine AT (.bool false) (congrArg Value.bool (zu (by omega))) (Bu ?_)
 refine xa (Ai (vs:=BA s) (st.cells 0 rfl) rfl rfl rfl rfl) ?_
 refine xk (Ym (ht.ext st.low) (hr.ext st.low) hl hn hnc hG hL) rfl ?_
 rintro _ hp3 ⟨w,rfl,st3⟩
 replace st:=st.join st3
 simp only [z5,z4]at st
 refine Cp ?_
 refine xa (Ai (vs:=BA s) (st.cells 1 rfl) rfl rfl rfl rfl) (AC ?_)
 refine xw (us:=BA s) st 1 (DB s) fun hp st=> ?_
 simp only [z0,z1]at st
 refine AF ?_
 refine Af (.cons (Ax (vs:=BA s) rfl rfl rfl (st.cells 1 rfl)) (.cons (.tmp rfl) (.cons (.tmp rfl) .nil))) ?_
 exact ⟨w,rfl,st.sel 2 [0]⟩
end Go.Bn
end

section
namespace Go.Bn
open Go Proofs
theorem iG {B p cap S:Nat} {f:Fs} {F:List AE} {h0:AA} (st0:St B h0 h0 (BF p cap f::F)) (hfit:f.fit S cap):
  AG Tryz.prog 171 [AM p] h0 fun v h'=>(∃n,v=nV n∧n≤f.dk.length*S)∧AV h0 h':=by
 obtain ⟨x,hx,st⟩:=st0.fs
 obtain ⟨A,n,c,e,hn,hnc,hcm,hr⟩:=st.row 4 rfl
 rw [z3,zf]at hn
 simp only [maxLen]at hcm
 obtain ⟨A2,n2,c2,e2,hn2,_,_,hr2⟩:=st.row 3 rfl
 rw [K9]at hn2
 have hl:=St.zip_len (st.sel 6 [5])
 have hS:(f.dk.length+1)*S≤65536:=zw hfit.room hfit.cap
 have hc:=st.cell 0 (i:=0) rfl rfl
 have hc1:=st.cell 0 (i:=1) rfl rfl
 have hc3:=st.cell 0 (i:=3) rfl rfl
 rw [e]at hc
 rw [e2]at hc3
 have hwait:=hfit.wait
 refine BE Tryz.func171 rfl fun _=>IU ?_
 refine xl (hc) rfl (AJ ?_)
 refine BD (fun s=>n-s.1) (fun s=>[(0,AM p),(3,nV s.2),(11,.slice A n c),(12,nV n),(13,nV s.1)])
  (fun (s:Nat×Nat) hp=>s.1≤n∧s.2≤s.1*S∧AV h0 hp)
  (0,0) (CP rfl rfl rfl rfl rfl) ⟨Nat.zero_le _,Nat.zero_le _,AV.refl _⟩ ?_
 rintro ⟨i,u⟩ hp ⟨hi,hu,hxx⟩
 simp only at hi hu ⊢
 refine AH ?_
 refine AK rfl (fun h=> ?_) (fun h=> ?_)
 ·obtain ⟨d,hd⟩:∃d,f.dk[i]? =some d:=⟨_,z9 (by omega)⟩
  obtain ⟨q,A3,n3,c3,e3,hq,_,_,st3⟩:=St.fdisk (F:=F) st hd
  obtain ⟨k,hk⟩:=hfit.link i (by omega)
  obtain ⟨bb,o,rfl,hcs⟩:=hr.at_ (by rw [z3];omega)
  have hci:=hcs i (AM q) (by rw [zr,hq];rfl)
  have hui:i*S≤f.dk.length*S:=Nat.mul_le_mul_right _ (by omega)
  have hSS:f.dk.length*S+S≤65536:=by rw [Nat.add_mul,Nat.one_mul]at hS;exact hS
  obtain ⟨om,hom,stm⟩:=st.mpAt 1 rfl
  obtain ⟨qm,rfl⟩:∃r,om=some r:=by
   cases om with
   | none=>
    obtain ⟨em,_⟩:=St.and.1 stm
    rw [em]at hk;cases hk
   | some r=>exact ⟨r,rfl⟩
  obtain ⟨es,ck,hes,hbm⟩:=stm.mapG_at (j:=0) rfl
  rw [hom]at hc1
  obtain ⟨⟨hok,h4⟩,vn,vs,vw,ss,ws,st3⟩:=St.dk.1 st3
  obtain ⟨A1,n1,c1,rfl,hn1,_,_,_⟩:=st3.row 1 rfl
  rw [z3,zf]at hn1
  have hlen:=hok.len
  have hds:=(hfit.dk d (List.mem_of_getElem? hd)).1
  have hcd:=st3.cell 0 (i:=0) rfl rfl
  refine AO ?_
  refine xl (Bz (a:=⟨bb,o+i,none⟩) hxx hci) rfl (Aj ?_)
  refine xk (be (Bz hxx hc1) hes ((hxx.blk qm (Array.getElem?_eq_some_iff.1 hbm).1).trans hbm) (Bz hxx hc3) (hr2.ext hxx) (by omega) (by omega) hk _ hfit.now (by decide)) rfl ?_
  rintro _ hp2 ⟨rfl,hx2⟩
  replace hxx:=hxx.trans hx2
  refine AH ?_
  refine xk (JH (Bz hxx hcd) (by omega)) rfl ?_
  rintro _ _ ⟨rfl,rfl⟩
  rw [show n1/512=d.safe.length by omega]
  refine AP ?_
  exact Ad (i+1,u+d.safe.length) (CP rfl rfl rfl rfl rfl) ⟨by omega,by simp only [Nat.add_mul,Nat.one_mul];omega,hxx⟩ (by simp only;omega)
 ·refine AO ?_
  refine ⟨⟨u,rfl,?_⟩,hxx⟩
  rw [show f.dk.length=i by omega];exact hu
theorem MQ {B p cap S id a m c:Nat} {A:Option Addr} {b:List UInt8} {d:Dk} {f:Fs} {F:List AE} {h0:AA} (st0:St B h0 h0 (BF p cap f::F)) (hfit:f.fit S cap) (hd:f.dk[id]? =some d) (hr:∀h' rs,St B h0 h' (rs++F)→Rd h' A (b.map AN)) (hl:b.length=m) (hmc:m≤c) (ha:Ba (a+m)≤S) (ha2:a+m≤2097152):
  AG Tryz.prog 119 [AM p,nV id,nV a,.slice A m c] h0 fun v h'=>(v=nV 0∧St B h0 h' (BF p cap (f.setD id (d.write a b))::F))∨(v=nV 10∧f.quiet=false∧St B h0 h' (BF p cap f::F)):=by
 have hid:=(zc.1 hd).1
 obtain ⟨hdS,hdw⟩:=hfit.dk d (List.mem_of_getElem? hd)
 have hS:f.dk.length*S+S≤cap:=by have:=hfit.room;rw [Nat.add_mul,Nat.one_mul]at this;exact this
 have hcap:=hfit.cap
 refine Gx Tryz.func119 rfl fun _=>AP ?_
 refine xk (Kp st0) rfl ?_
 refine fun v hp1 hh=>hh.1.elim (fun hv=> ?_) (fun hv=> ?_)
 ·obtain rfl:=hv
  have st:=hh.2
  obtain ⟨x,hx,st1⟩:=st.fs
  obtain ⟨q,A1,n1,c1,e1,hq,hn1,hr1,st2⟩:=St.fdisk (F:=F) st1 hd
  have hc:=st1.cell 0 (i:=0) rfl rfl
  rw [e1]at hc
  obtain ⟨⟨hok,h4⟩,vn,vs,vw,ss,ws,st3⟩:=St.dk.1 st2
  obtain ⟨A3,n3,c3,rfl,hn3,_,_,_⟩:=st3.row 1 rfl
  rw [z3,zf]at hn3
  have hlen:=hok.len
  have hc3:=st3.cell 0 (i:=0) rfl rfl
  refine B3 ?_
  refine xk (OO hc hr1 hn1 hq) rfl ?_
  rintro _ _ ⟨rfl,rfl⟩
  refine AP ?_
  refine xk (SU hc3 (by omega) ha2) rfl ?_
  rintro _ _ ⟨rfl,rfl⟩
  rw [show n3/512=d.safe.length by omega]
  obtain ⟨K,hK⟩:∃K,(if m=0 then d.safe.length else max d.safe.length (Ba (a+m)))=K:=⟨_,rfl⟩
  have hKS:d.safe.length≤K∧K≤S:=by rw [←hK];split <;> omega
  rw [hK]
  refine Bu ?_
  refine xa (Bm rfl) (AJ ?_)
  refine GK ((Ck [(2,.grow),(7,.grow),(14,.grow)])) [0,1,2,3,4,5,6,9,10,11,12,13,7,8,14,15,16,17,18] (by kernel_rfl) (by kernel_rfl) rfl (AB ?_)
  refine BW (CT (JH hc3 (by omega)) rfl (by kernel_rfl)) rfl rfl rfl (fun _ _ h=>h.2▸BC.refl _ _) ?_
  rintro _ _ ⟨rfl,rfl⟩
  rw [show n3/512=d.safe.length by omega]
  refine AB ?_
  refine Am 37 rfl (fun h=> ?_) (fun h=> ?_)
  ·refine AH ?_
   refine xc st1 0 4 ?_
   refine AC ?_
   refine BW (CT (JH hc3 (by omega)) rfl (by kernel_rfl)) rfl rfl rfl (fun _ _ h=>h.2▸BC.refl _ _) ?_
   rintro _ _ ⟨rfl,rfl⟩
   rw [show n3/512=d.safe.length by omega]
   refine xa (Bk rfl rfl (by omega) (by simp only [AI];omega)) ?_
   refine BW (CT (iG st.here hfit) rfl (by kernel_rfl)) rfl rfl rfl (fun _ _ h=>h.2) ?_
   rintro _ hp4 ⟨⟨u,rfl,hu⟩,hx4⟩
   replace st2:=st2.ext hx4
   refine xa (Bk rfl rfl (by omega) (by simp only [AI];omega)) (AC ?_)
   refine AT (.bool false) (congrArg Value.bool (zu (by omega))) (Bu ?_)
   refine xk (Sb st2.here (fun h' rs s=>hr h' (rs++[_,_,_,_,_,_,_]) (by rw [z8];exact st2.trans s)) hl hmc ha2 (by omega)) rfl ?_
   rintro _ hp5 ⟨rfl,st5⟩
   refine AF ?_
   exact .inl ⟨rfl,St.fdisk' (F:=F) hx hq hid (st2.trans st5)⟩
  ·refine RG ?_
   refine xk (Sb st2.here (fun h' rs s=>hr h' (rs++[_,_,_,_,_,_,_]) (by rw [z8];exact st2.trans s)) hl hmc ha2 (by omega)) rfl ?_
   rintro _ hp5 ⟨rfl,st5⟩
   refine AF ?_
   exact .inl ⟨rfl,St.fdisk' (F:=F) hx hq hid (st2.trans st5)⟩
 ·obtain ⟨rfl,hq⟩:=hv
  refine Bq ?_
  exact .inr ⟨rfl,hq,hh.2⟩
theorem iB {B p cap S:Nat} {k:List UInt8} {f:Fs} {F:List AE} {h0:AA} (st0:St B h0 h0 (BF p cap f::F)) (hfit:f.fit S cap) (hk:0<k.length∧k.length≤100) (hn:f.now k=none) (hdk:f.dk.length<1000):
  AG Tryz.prog 132 [AM p,AU k] h0 fun v h'=>(v=Al [nV f.dk.length,nV 0]∧St B h0 h' (BF p cap (f.make k)::F))∨(v=Al [nV 0,nV 10]∧f.quiet=false∧St B h0 h' (BF p cap f::F)):=by
 refine Ac Tryz.func132 rfl fun _=>Aj ?_
 refine xk (Kp st0) rfl ?_
 refine fun v hp1 hh=>hh.1.elim (fun hv=> ?_) (fun hv=> ?_)
 ·obtain rfl:=hv
  obtain ⟨⟨vd,vn,vs,vw,v7,i5,i6,qs,rl⟩,hqt,st⟩:=hh.2.fs
  simp only [GG.cs]at hqt st
  have hl:=St.zip_len (st.sel 6 [5])
  obtain ⟨A,n,c,rfl,hn1,_,_,_⟩:=st.row 4 rfl
  rw [z3,zf]at hn1
  obtain rfl:n=f.dk.length:=by omega
  refine Bq ?_
  refine xc st 0 0 ?_
  refine Aj ?_
  refine AK rfl (fun h=> ?_) (fun h=> ?_)
  ·omega
  ·refine Aj ?_
   refine xk (ba (st.here) hfit.wait hk hn hfit.now (by decide)) rfl ?_
   rintro _ hp2 ⟨rfl,vn',vw',st2⟩
   replace st:=st.trans st2
   refine Cp ?_
   refine xc st 0 0 ?_
   refine xa (AZ (ps:=[]) (cs:= #[.slice none 0 0,.slice none 0 0,.slice none 0 0]) rfl rfl) ?_
   refine xb (us:=[.slice none 0 0,.slice none 0 0,.slice none 0 0]) st fun q hp st=> ?_
   refine xv (Ep rfl rfl rfl) ?_
   rintro _ hp ⟨A,rfl,hx,hrd⟩
   have st:=st.ext hx
   refine BN (BY st 5 rfl (hrd) (rfl) (by simp [Value.one]) (by simp;omega) rfl rfl rfl rfl rfl rfl rfl) rfl rfl rfl fun v hp st=> ?_
   simp only [z0,z1]at st
   rw [show qs.map AM++[AM q]=(qs++[q]).map AM by rw [List.map_append];rfl]at st
   obtain ⟨_,_,_,rfl,_⟩:=st.row 5 rfl
   refine AB ?_
   refine xj st 1 fun hp st=> ?_
   simp only [z0,z1]at st
   refine AP ?_
   refine .inl ⟨rfl,?_⟩
   have st:=(St.zip_nil (f:=J2)).2 ((St.zip_nil (f:=IK)).2 (((st.nilrow 172 2).nilrow 23 1).nilrow 5 1))
   replace st:=st.sel 12 [5,2,3,4,1,0,6,7,8,9,10,11]
   simp only [BU,BV,An]at st
   have st:=(St.dkI (d:=Dk.nil) (ss:=[]) (ws:=[]) ⟨Dk.nil_ok,Nat.zero_le _⟩ st).sel 7 [6,0,1,2,3,4,5]
   simp only [BU,BV,An]at st
   have st:=(St.zip_snoc st).sel 6 [1,2,3,4,5,0]
   exact St.fsI (f:=f.make k) hqt st
 ·obtain ⟨rfl,hq⟩:=hv
  refine Cp ?_
  exact .inr ⟨rfl,hq,hh.2⟩
theorem OQ {B p cap S id:Nat} {d:Dk} {f:Fs} {F:List AE} {h0:AA} (st0:St B h0 h0 (BF p cap f::F)) (hd:f.dk[id]? =some d):
  AG Tryz.prog 126 [AM p,nV id] h0 fun v h'=>(v=nV 0∧St B h0 h' (BF p cap (f.setD id d.sync)::F))∨(v=nV 10∧f.quiet=false∧St B h0 h' (BF p cap f::F)):=by
 have hid:=(zc.1 hd).1
 refine Ac Tryz.func126 rfl fun _=>AP ?_
 refine xk (Kp st0) rfl ?_
 refine fun v hp1 hh=>hh.1.elim (fun hv=> ?_) (fun hv=> ?_)
 ·obtain rfl:=hv
  have st:=hh.2
  obtain ⟨x,hx,st1⟩:=st.fs
  obtain ⟨q,A1,n1,c1,e1,hq,hn1,hr1,st2⟩:=St.fdisk (F:=F) st1 hd
  have hc:=st1.cell 0 (i:=0) rfl rfl
  rw [e1]at hc
  refine B3 ?_
  refine xk (OO hc hr1 hn1 hq) rfl ?_
  rintro _ _ ⟨rfl,rfl⟩
  refine B3 ?_
  refine xk (Sa st2.here) rfl ?_
  rintro _ hp5 st5
  refine AL ?_
  exact .inl ⟨rfl,St.fdisk' (F:=F) hx hq hid (st2.trans st5)⟩
 ·obtain ⟨rfl,hq⟩:=hv
  refine Bq ?_
  exact .inr ⟨rfl,hq,hh.2⟩
theorem RD {B p cap:Nat} {f:Fs} {F:List AE} {h0:AA} (st0:St B h0 h0 (BF p cap f::F)):
  AG Tryz.prog 134 [AM p] h0 fun v h'=>(v=nV 0∧St B h0 h' (BF p cap f.syncD::F))∨(v=nV 10∧f.quiet=false∧St B h0 h' (BF p cap f::F)):=by
 refine BE Tryz.func134 rfl fun _=>AO ?_
 refine xk (Kp st0) rfl ?_
 refine fun v hp1 hh=>hh.1.elim (fun hv=> ?_) (fun hv=> ?_)
 ·obtain rfl:=hv
  obtain ⟨⟨vd,vn,vs,vw,v7,i5,i6,qs,rl⟩,hx,st⟩:=hh.2.fs
  simp only [GG.cs]at hx st
  refine B3 ?_
  refine xk (Pq st.here) rfl ?_
  rintro _ hp5 ⟨vs',vw',st5⟩
  refine AO ?_
  exact .inl ⟨rfl,St.fsI (f:=f.syncD) hx (st.trans st5)⟩
 ·obtain ⟨rfl,hq⟩:=hv
  refine Bb ?_
  exact .inr ⟨rfl,hq,hh.2⟩
theorem iF {B p cap i:Nat} {k k2:List UInt8} {f:Fs} {F:List AE} {h0:AA} (st0:St B h0 h0 (BF p cap f::F)) (hw:f.wait.length≤1048576) (hk:0<k2.length∧k2.length≤100) (hn:f.now k=some i):
  AG Tryz.prog 179 [AM p,AU k,AU k2] h0 fun v h'=>(v=nV 0∧St B h0 h' (BF p cap (f.doN ⟨k,k2,0⟩)::F))∨(v=nV 10∧f.quiet=false∧St B h0 h' (BF p cap f::F)):=by
 refine Bg Tryz.func179 rfl fun _=>AP ?_
 refine xk (Kp st0) rfl ?_
 refine fun v hp1 hh=>hh.1.elim (fun hv=> ?_) (fun hv=> ?_)
 ·obtain rfl:=hv
  obtain ⟨⟨vd,vn,vs,vw,v7,i5,i6,qs,rl⟩,hx,st⟩:=hh.2.fs
  simp only [GG.cs]at hx st
  refine Bb ?_
  refine xk (bi st.here hw hk hn) rfl ?_
  rintro _ hp5 ⟨rfl,vn',vw',st5⟩
  refine AF ?_
  exact .inl ⟨rfl,St.fsI (f:=f.doN ⟨k,k2,0⟩) hx (st.trans st5)⟩
 ·obtain ⟨rfl,hq⟩:=hv
  refine Bq ?_
  exact .inr ⟨rfl,hq,hh.2⟩
theorem iE {B p cap i:Nat} {k:List UInt8} {f:Fs} {F:List AE} {h0:AA} (st0:St B h0 h0 (BF p cap f::F)) (hw:f.wait.length≤1048576) (hn:f.now k=some i):
  AG Tryz.prog 131 [AM p,AU k] h0 fun v h'=>(v=nV 0∧St B h0 h' (BF p cap (f.doN ⟨k,[],0⟩)::F))∨(v=nV 10∧f.quiet=false∧St B h0 h' (BF p cap f::F)):=by
 refine Ac Tryz.func131 rfl fun _=>AP ?_
 refine xk (Kp st0) rfl ?_
 refine fun v hp1 hh=>hh.1.elim (fun hv=> ?_) (fun hv=> ?_)
 ·obtain rfl:=hv
  obtain ⟨⟨vd,vn,vs,vw,v7,i5,i6,qs,rl⟩,hx,st⟩:=hh.2.fs
  simp only [GG.cs]at hx st
  refine Cp ?_
  refine xk (bh st.here hw hn) rfl ?_
  rintro _ hp5 ⟨rfl,vn',vw',st5⟩
  refine AF ?_
  exact .inl ⟨rfl,St.fsI (f:=f.doN ⟨k,[],0⟩) hx (st.trans st5)⟩
 ·obtain ⟨rfl,hq⟩:=hv
  refine Bq ?_
  exact .inr ⟨rfl,hq,hh.2⟩
theorem ZM {q n c:Nat} {A:Option Addr} {h0:AA} (hc:Az h0 ⟨q,2,none⟩=some (.slice A n c)):AG Tryz.prog 49 [AM q] h0 fun v h'=>v=nV n∧h0=h':=by
 refine BE Tryz.func49 rfl fun _=>EY ?_
 refine xl (hc) rfl (AJ ?_)
 exact ⟨rfl,rfl⟩
theorem iC {c:Nat} (hc:c≤65536) (h0:AA):AG Tryz.prog 11 [nV c] h0 fun v h'=>∃p,v=AM p∧St h0.size h0 h' [BF p c ⟨[],fun _=>none,fun _=>none,[],true⟩]:=by
 have st:=St.start h0
 refine BE Tryz.func11 rfl fun _=>Aj ?_
 refine AT (nV c) (congrArg (Value.int .i64) (by omega)) ?_
 refine xa (AZ (ps:=[(2,nV c)]) (cs:= #[.slice none 0 0,.map none,.map none,.slice none 0 0,nV c,.int .i64 0,.int .i64 0,.slice none 0 0]) rfl rfl) ?_
 refine xb (us:=[.slice none 0 0,.map none,.map none,.slice none 0 0,nV c,.int .i64 0,.int .i64 0,.slice none 0 0]) st fun p hp st=>AF ?_
 have st:=(St.zip_nil (f:=Dg)).2 (((st.nilrow 3 1).nilrow 113 1).nilrow 176 3)
 have hn:∀ {F:List AE},St h0.size h0 hp F→St h0.size h0 hp (B6 (.map none) (fun _=>none)::F):=fun s=>St.mp.2 ⟨none,rfl,St.and.2 ⟨rfl,St.emp.2 s⟩⟩
 replace st:=(hn (hn st)).sel 7 [6,0,1,3,4,2,5]
 simp only [BU,BV,An]at st
 exact ⟨p,rfl,St.fsI (f:=⟨[],fun _=>none,fun _=>none,[],true⟩) (qs:=[]) (rl:=[]) (fun _=>rfl) st⟩
def I5 (ds ds':List Dk) (n:Nat):Prop:=ds'.length=ds.length∧(∀ (i:Nat) (d:Dk),i<n→ds[i]? =some d→∃b,FY d b∧ds'[i]? =some (d.to b))∧∀i,n≤i→ds'[i]? =ds[i]?
theorem I5.zero (ds:List Dk):I5 ds ds 0:=⟨rfl,fun i d h=>by omega,fun _ _=>rfl⟩
theorem I5.step {ds ds':List Dk} {n:Nat} {d:Dk} {b:List UInt8} (h:I5 ds ds' n) (hd:ds[n]? =some d) (ha:FY d b):I5 ds (ds'.set n (d.to b)) (n+1):=by
 have hn:=(zc.1 hd).1
 have h1:=h.1
 refine ⟨by rw [List.length_set];exact h1,fun i e hi he=> ?_,fun i hi=> ?_⟩
 ·by_cases hin:n=i
  ·subst hin
   rw [hd]at he;cases he
   exact ⟨b,ha,List.getElem?_set_self (by omega)⟩
  ·rw [List.getElem?_set_ne hin]
   exact h.2.1 i e (by omega) he
 ·rw [List.getElem?_set_ne (by omega)]
  exact h.2.2 i (by omega)
theorem iA {B p cap kn kc:Nat} {n f8:Int} {A:Option Addr} {ks:List Bool} {f:Fs} {F:List AE} {h0:AA} (st0:St B h0 h0 (BF p cap f::F)) (hr:∀h' rs,St B h0 h' (rs++F)→Rd h' A (ks.map Value.bool)) (hl:ks.length=kn) (hkc:kn≤kc) (hs:∃k i,f.safe k=some i) (hkn:kn≤1048576):
  AG Tryz.prog 27 [AM p,.agg #[.slice A kn kc,.int .i64 n,.int .u8 f8]] h0 fun v h'=>∃f',MV f f'∧St B h0 h' (BF p cap f'::F):=by
 obtain ⟨⟨vd,vn,vs,vw,v7,i5,i6,qs,rl⟩,hqt,st⟩:=st0.fs
 simp only [GG.cs]at hqt st
 obtain ⟨A1,m,c1,rfl,hm,hmc,hcm,_⟩:=st.row 4 rfl
 simp only [maxLen]at hcm
 rw [z3,zf]at hm
 have hzl:=St.zip_len (st.sel 6 [5])
 refine Ac Tryz.func27 rfl fun _=>AB ?_
 refine xv (Bv (cs:=[.slice A kn kc,.int .i64 n,.int .u8 f8]) rfl rfl) ?_
 rintro _ hp ⟨p3,rfl,hnew⟩
 replace st:=(st.new hnew).sel 8 [6,0,1,2,3,4,5]
 simp only [BU,BV,An]at st
 refine By ?_
 refine xc st 1 0 ?_
 refine AP ?_
 refine xc st 2 0 ?_
 refine AJ ?_
 refine BD (fun s=>m-s.1) (fun s=>[(0,AM p),(3,AM p3),(4,.slice s.2.2.2.1 (kn-s.2.2.1) s.2.2.2.2),(15,.slice A1 m c1),(16,nV m),(17,nV s.1)])
  (fun (s:Nat×List Dk×Nat×Option Addr×Nat) hp=>s.1≤m∧I5 f.dk s.2.1 s.1∧s.2.2.1≤kn∧kn-s.2.2.1≤s.2.2.2.2∧(∀h' rs,St B h0 h' (rs++F)→Rd h' s.2.2.2.1 ((ks.drop s.2.2.1).map Value.bool))∧St B h0 hp (C4 Dg qs s.2.1::pt p3 26 [.slice A kn kc,.int .i64 n,.int .u8 f8]::pt p 63 [.slice A1 m c1,vn,vs,vw,nV cap,.int .i64 i5,.int .i64 i6,v7]::B6 vn f.now::B6 vs f.safe::row 176 3 vw (DF f.wait)::row 113 1 (.slice A1 m c1) (qs.map AM)::F))
  (0,f.dk,0,A,kc) (CL rfl rfl rfl rfl rfl rfl) ⟨Nat.zero_le _,I5.zero _,Nat.zero_le _,by simp only;omega,fun h' rs s=>hr h' rs s,st⟩ ?_
 clear st st0
 rintro ⟨i,ds,j,A2,c2⟩ hp ⟨hi,hlt,hj,hjc,hr2,st⟩
 simp only at hi hlt hj hjc hr2 st ⊢
 refine AH ?_
 refine AK rfl (fun h=> ?_) (fun h=> ?_)
 ·have hdl:=hlt.1
  obtain ⟨d,hd⟩:∃d,f.dk[i]? =some d:=⟨_,z9 (by omega)⟩
  have hd2:ds[i]? =some d:=(hlt.2.2 i (Nat.le_refl _)).trans hd
  obtain ⟨q,hq⟩:∃q,qs[i]? =some q:=⟨_,z9 (by omega)⟩
  obtain ⟨g,_,_,e1,_,_,_,hrd⟩:=st.row0 6 rfl (by rw [z3];omega)
  cases e1
  obtain ⟨_,_,e2,hcs⟩:=hrd.at_ (by rw [z3];omega)
  cases e2
  have hci:=hcs i (AM q) (by rw [zr,hq];rfl)
  have st2:=(St.zip_get hq hd2).1 st
  obtain ⟨_,vn3,vs3,vw3,ss3,ws3,st3⟩:=St.dk.1 st2
  obtain ⟨A4,nw,c4,rfl,_,_,_,_⟩:=st3.row 3 rfl
  refine AL ?_
  refine xl (hci) rfl (AH ?_)
  refine xk (ZM (st3.cell 0 (i:=2) rfl rfl)) rfl ?_
  rintro _ _ ⟨rfl,rfl⟩
  refine AF ?_
  refine AT (nV (min nw (kn-j))) (congrArg (Value.int .i64) (by omega)) ?_
  obtain ⟨k,hk⟩:∃k,min nw (kn-j)=k:=⟨_,rfl⟩
  rw [hk]
  have hkj:k≤kn-j:=by omega
  refine AP ?_
  rw [H1]
  refine AC ?_
  refine xc st2 2 2 ?_
  refine xk (ZC (ks:=(ks.drop j).take k) st2.here (fun h' rs s=>by rw [List.map_take];exact (hr2 h' (rs++[_,_,_,_,_,_,_]) (by rw [z8];exact st2.trans s)).take k) (by rw [z6,z7];omega)) rfl ?_
  rintro _ hp5 ⟨b,hab,st5⟩
  replace st:=St.zip_set (by omega) (by omega) (st2.trans st5)
  rw [List.set_getElem?_self' hq]at st
  clear st2 st3 st5
  refine AJ ?_
  refine xa (FD rfl rfl rfl (by omega) (by omega)) (AO ?_)
  refine Ad (i+1,ds.set i (d.to b),j+k,Eb A2 k 1 c2,c2-k) (.cons rfl (.cons rfl (.cons (by rw [Nat.sub_add_eq];rfl) (DJ rfl rfl rfl)))) ⟨by omega,hlt.step hd hab,by simp only;omega,by simp only;omega,fun h' rs s=> ?_,st⟩ (by simp only;omega)
  have:=(hr2 h' rs s).cut k 1 c2 (kn-j-k) (fun e=>by rw [z3,z7];omega)
  rw [zf,←List.map_drop,List.drop_drop,←List.map_take,za (by rw [z7];omega)]at this
  exact this
 ·refine AO ?_
  refine xc st 1 1 ?_
  replace st:=st.sel 7 [2,3,4,5,0,6]
  simp only [BU,BV,An]at st
  refine xk (bZ st.here hs) rfl ?_
  rintro _ hp6 ⟨mm,vn',vs',vw',st6⟩
  replace st:=st.trans st6
  refine AH ?_
  refine xj (i:=7) st 0 fun hp st=> ?_
  simp only [z0,z1]at st
  refine AB ?_
  obtain rfl:i=m:=by omega
  replace st:=(st.nilrow 3 1).sel 7 [1,2,3,4,6,5,0]
  exact ⟨⟨ds,(f.wait.take mm).foldl Br f.safe,(f.wait.take mm).foldl Br f.safe,[],true⟩,⟨hlt.1,fun i d h=>hlt.2.1 i d (by have:=(zc.1 h).1;omega) h,⟨mm,rfl⟩,rfl,rfl,rfl⟩,St.fsI (f:=⟨ds,_,_,[],true⟩) (rl:=[]) (fun _=>rfl) st⟩
end Go.Bn
end

/- Packed texts of a claim: what its theorem uses, joined. -/
import Derived.Lib.Overlaps
import Derived.Test.YtcakpngelbhkfaaGreatDoorPkTopBetween12
set_option maxRecDepth 100000
set_option maxHeartbeats 4000000
set_option linter.unusedVariables false
set_option linter.unusedSimpArgs false
set_option linter.unusedSectionVars false
set_option linter.defProp false
section
namespace Go.Bn
open Go Proofs
@[reducible] def Dy (m:Nat) (name:List UInt8) (size area sum:Nat):List Value:=[nV m,AU name,nV size,nV area,.int .u32 (sum:Int)]
theorem LM (m:Nat) (name:List UInt8) (size area sum:Nat):∀u∈Dy m name size area sum,Value.one u=true:=by
 intro u hu
 simp only [Dy,List.mem_cons,zl,or_false]at hu
 rcases hu with rfl | rfl | rfl | rfl | rfl <;> rfl
theorem Tz {name:List UInt8} (hn:name.length≤1073741824) (h0:AA):AG Tryz.prog 69 [AU name] h0 fun v h'=>v=nV (22+name.length)∧h0=h':=by
 refine BE Tryz.func69 rfl fun _=>AP ?_
 refine xa (CH (m:=22) rfl rfl (by simp only [AI];omega)) (AF ?_)
 exact ⟨rfl,rfl⟩
theorem T5 {m size area sum:Nat} {name:List UInt8} (h:JN m name size area sum) (h0:AA):AG Tryz.prog 113 [.agg (Dy m name size area sum).toArray] h0 fun v h'=>v= .bool true∧AV h0 h':=by
 have st:=St.start h0
 have hm:=h.hm
 have hsz:=h.hs
 refine BE Tryz.func113 rfl fun _=>AB ?_
 refine xb (us:=Dy m name size area sum) st fun p1 hp st=>AL ?_
 refine xc st 0 1 ?_
 refine xk (Ja name _) rfl ?_
 rintro _ hp2 ⟨rfl,hx⟩
 replace st:=st.ext hx
 rw [decide_eq_true h.hn]
 refine AF ?_
 refine xc st 0 2 ?_
 refine AC ?_
 refine AT (.bool false) (congrArg Value.bool (zu (by omega))) (AF ?_)
 refine xc st 0 2 ?_
 refine AC ?_
 refine AT (.bool false) (congrArg Value.bool (zu (by omega))) (AF ?_)
 refine xc st 0 3 ?_
 refine AC ?_
 refine AT (.bool false) (congrArg Value.bool (zu (by omega))) (AP ?_)
 refine xc st 0 0 ?_
 refine AO ?_
 refine AK rfl (fun h=> ?_) (fun h=> ?_)
 ·refine AF ?_
  refine xc st 0 3 ?_
  refine AC ?_
  refine xc st 0 2 ?_
  refine AJ ?_
  exact ⟨congrArg Value.bool (decide_eq_true (by omega)),st.low⟩
 ·refine AH ?_
  refine AK rfl (fun h=> ?_) (fun h=> ?_)
  ·refine AF ?_
   refine xc st 0 3 ?_
   refine AC ?_
   refine xc st 0 2 ?_
   refine AJ ?_
   exact ⟨congrArg Value.bool (decide_eq_true (by omega)),st.low⟩
  ·refine AH ?_
   refine AK rfl (fun h=> ?_) (fun h=> ?_)
   ·refine AF ?_
    refine xc st 0 2 ?_
    refine AB ?_
    refine Am 43 rfl (fun h=> ?_) (fun h=> ?_)
    ·refine AC ?_
     refine xc st 0 3 ?_
     refine AF ?_
     refine Am 48 rfl (fun h=> ?_) (fun h=> ?_)
     ·refine AC ?_
      refine xc st 0 4 ?_
      refine AH ?_
      exact ⟨congrArg Value.bool (decide_eq_true (by omega)),st.low⟩
     ·omega
    ·omega
   ·omega
theorem T4 {tp m size area sum:Nat} {name:List UInt8} {h0:AA} (ht:CN h0 tp) (h:JN m name size area sum):AG Tryz.prog 64 [AM tp,.agg (Dy m name size area sum).toArray] h0 fun v h'=>
  ∃v1,v=Al [v1,nV 0]∧St h0.size h0 h' [row 5 1 v1 ((F3 m name size area sum).map AN)]:=by
 have st:=St.start h0
 have hm:=h.m2
 have hsz:=h.hs
 have hsm:=h.hu
 have hnm:=h.hn.1
 refine Ac Tryz.func64 rfl fun _=>AB ?_
 refine xv (Bv (cs:=Dy m name size area sum) rfl rfl) ?_
 rintro _ hp ⟨p3,rfl,hnew⟩
 replace st:=st.new hnew
 refine AL ?_
 refine xa (Ai (vs:=Dy m name size area sum) (st.cells 0 rfl) rfl rfl rfl rfl) ?_
 refine xk (T5 h _) rfl ?_
 rintro _ hp2 ⟨rfl,hx⟩
 replace st:=st.ext hx
 refine xa (Bm rfl) (AH ?_)
 refine xv (Jk (([76,77,66,82]:List UInt8).map AN) rfl rfl rfl rfl (by kernel_rfl) rfl) ?_
 rintro v hp hnew
 replace st:=st.new hnew
 obtain ⟨A,n,k,rfl,hlen,_,_,hrd⟩:=st.row 0 rfl
 obtain ⟨gb,o,rfl,_⟩:=hrd.at_ (by decide)
 refine xv (Lz st 0 rfl rfl rfl) ?_
 rintro _ hp ⟨rfl,st⟩
 refine AC ?_
 refine xc st 1 0 ?_
 refine xa (Bj rfl rfl (by simp only [AI];omega)) (AC ?_)
 refine xc st 1 1 ?_
 refine AC ?_
 refine xa (Bj rfl rfl (by simp only [AI];omega)) ?_
 refine xv (Jk [.int .u8 (m:Int),.int .u8 (name.length:Int)] rfl rfl rfl rfl (by kernel_rfl) rfl) ?_
 rintro v hp hnew
 replace st:=st.new hnew
 obtain ⟨_,n2,_,rfl,hlen2,_,_,hrd2⟩:=st.row 0 rfl
 refine BN (BY st 1 rfl (hrd2) (by simpa using hlen2) (by simp [Value.one]) (by simp) rfl rfl rfl rfl rfl rfl rfl) rfl rfl rfl fun v hp st=> ?_
 simp only [z0,z1]at st
 replace st:=st.sel 3 [1,2]
 simp only [BU,BV,An]at st
 rw [show ([76,77,66,82]:List UInt8).map AN++[Value.int .u8 (m:Int),.int .u8 (name.length:Int)]=(([76,77,66,82]:List UInt8)++[UInt8.ofNat m,UInt8.ofNat name.length]).map AN by
  rw [List.map_append];simp only [zj,List.map_nil,AN,KU (show m<256 by omega),KU (show name.length<256 by omega)]]at st
 refine AL ?_
 refine xc st 1 2 ?_
 refine xa (Bj rfl rfl (by simp only [AI];omega)) (AC ?_)
 refine xc st 1 3 ?_
 refine xa (Bj rfl rfl (by simp only [AI];omega)) (AC ?_)
 refine xc st 1 4 ?_
 refine xa (AZ (ps:=[(0,.int .u32 (size:Int)),(1,.int .u32 (area:Int)),(2,.int .u32 (sum:Int))]) (cs:= #[.int .u32 (size:Int),.int .u32 (area:Int),.int .u32 (sum:Int)]) rfl rfl) (AF ?_)
 obtain ⟨H,hH⟩:∃H,([76,77,66,82]:List UInt8)++[UInt8.ofNat m,UInt8.ofNat name.length]=H:=⟨_,rfl⟩
 have hHl:H.length=6:=by rw [←hH];rfl
 rw [hH]at st
 refine BD (fun s=>3-s.1) (fun s=>[(0,AM tp),(3,AM p3),(6,s.2),(31,.agg #[.int .u32 (size:Int),.int .u32 (area:Int),.int .u32 (sum:Int)]),(32,nV s.1)])
  (fun (s:Nat×Value) hp=>s.1≤3∧St h0.size h0 hp [row 5 1 s.2 ((H++(([size,area,sum]:List Nat).take s.1).flatMap (Ay 4)).map AN),pt p3 130 (Dy m name size area sum)])
  (0,_) (CP rfl rfl rfl rfl rfl) ⟨by omega,by simpa using st⟩ ?_
 clear st hrd hlen hnew hx hrd2 hlen2
 rintro ⟨i,v⟩ hp ⟨hi,st⟩
 simp only at st hi ⊢
 refine AH ?_
 refine AK rfl (fun h=> ?_) (fun h=> ?_)
 ·have h3:i=0∨i=1∨i=2:=by omega
  obtain ⟨q,hq,hql,hix,htk⟩:∃q:Nat,q<4294967296∧(H++(([size,area,sum]:List Nat).take i).flatMap (Ay 4)).length≤100∧(#[.int .u32 (size:Int),.int .u32 (area:Int),.int .u32 (sum:Int)]:Array Value)[i]? =some (.int .u32 (q:Int))∧(([size,area,sum]:List Nat).take (i+1)).flatMap (Ay 4)=(([size,area,sum]:List Nat).take i).flatMap (Ay 4)++Ay 4 q:=by
   rcases h3 with rfl | rfl | rfl
   ·exact ⟨size,by omega,by simp [hHl],rfl,by simp⟩
   ·exact ⟨area,by omega,by simp [Cs,hHl],rfl,by simp⟩
   ·exact ⟨sum,hsm,by simp [Cs,hHl],rfl,by simp⟩
  refine AH ?_
  refine xa (Lj rfl rfl rfl (by omega) hix) (AH ?_)
  refine xk (H8 (n:=q) st.here hq (by omega)) rfl ?_
  rintro v hp st2
  replace st:=st.trans st2
  rw [show B2 4=4 by rfl,z8,←htk]at st
  refine AO ?_
  exact Ad (i+1,v) (CP rfl rfl rfl rfl rfl) ⟨by simp only;omega,st⟩ (by simp only;omega)
 ·obtain rfl:i=3:=by omega
  have e12:(([size,area,sum]:List Nat).take 3).flatMap (Ay 4)=Ay 4 size++Ay 4 area++Ay 4 sum:=by simp
  rw [e12]at st
  refine AH ?_
  refine xc st 1 1 ?_
  refine BN (P1 st 0 rfl (by simp [Cs,hHl];omega) rfl rfl rfl rfl rfl rfl) rfl rfl rfl fun v hp st=> ?_
  simp only [z0]at st
  have e0:H++(Ay 4 size++Ay 4 area++Ay 4 sum)++name=FO m name size area sum:=by rw [←hH];simp only [FO,z8]
  rw [←List.map_append,e0]at st
  have hsl:=Gz (FO m name size area sum)
  have hhl:=M6 m name size area sum
  obtain ⟨A5,n5,c5,rfl,hlen5,_,_,hrd5⟩:=st.row 0 rfl
  refine AO ?_
  refine xk (Gb (ht.ext st.low) hrd5 (by simpa using hlen5) (by simp at hlen5;omega)) rfl ?_
  rintro _ _ ⟨rfl,rfl⟩
  refine xk (H8 (n:=CM (FO m name size area sum)) st.here hsl (by omega)) rfl ?_
  rintro v hp st2
  replace st:=st.trans st2
  rw [show B2 4=4 by rfl]at st
  refine AJ ?_
  exact ⟨_,rfl,st.sel 2 [0]⟩
theorem au {n c p:Nat} {A:Option Addr} {b:List UInt8} {h0:AA} (hr:Rd h0 A (b.map AN)) (hl:b.length=n) (hnc:n≤c) (hA:At b p [76,77,66,82]) (hm:n≤1099511627776):
  AG Tryz.prog 210 [.slice A n c,nV p] h0 fun v h'=>v= .bool true∧h0=h':=by
 have hp4:=hA.len (by decide)
 simp only [ze,zk]at hp4
 refine Ac Tryz.func210 rfl fun _=>AP ?_
 refine AT (.bool true) (congrArg Value.bool (decide_eq_true (by omega))) (AJ ?_)
 refine xa (Bk (n:=4) rfl rfl (by omega) (by simp only [AI];omega)) (AC ?_)
 refine AT (.bool true) (congrArg Value.bool (decide_eq_true (by omega))) (AH ?_)
 refine xa (CH (n:=4) rfl rfl (by simp only [AI];omega)) ?_
 refine xa (Jh rfl rfl rfl rfl (by omega) (by omega)) ?_
 have hcut:=hr.cut p 1 c 4 (by intro e;rw [z3];omega)
 rw [zf,←List.map_drop,←List.map_take,show ((b.drop p).take 4)=[76,77,66,82]from hA.eq]at hcut
 refine xa (Gu hcut rfl (by simp) rfl rfl rfl) ?_
 refine xa (GS (b:=[76,77,66,82]) rfl rfl) (AJ ?_)
 exact ⟨rfl,rfl⟩
theorem fk {n c p:Nat} {A:Option Addr} {b:List UInt8} {h0:AA} (hr:Rd h0 A (b.map AN)) (hl:b.length=n) (hnc:n≤c) (hA:At b p [76,77,66,82]) (hm:n≤1099511627776):
  AG Tryz.prog 160 [.slice A n c,nV p] h0 fun v h'=>v= .bool false∧h0=h':=by
 have hp4:=hA.len (by decide)
 simp only [ze,zk]at hp4
 refine Ac Tryz.func160 rfl fun _=>AP ?_
 refine AT (.bool true) (congrArg Value.bool (decide_eq_true (by omega))) (AJ ?_)
 refine xa (Bk (n:=4) rfl rfl (by omega) (by simp only [AI];omega)) (AC ?_)
 refine AT (.bool true) (congrArg Value.bool (decide_eq_true (by omega))) (AH ?_)
 refine xa (CH (n:=4) rfl rfl (by simp only [AI];omega)) ?_
 refine xa (Jh rfl rfl rfl rfl (by omega) (by omega)) ?_
 have hcut:=hr.cut p 1 c 4 (by intro e;rw [z3];omega)
 rw [zf,←List.map_drop,←List.map_take,show ((b.drop p).take 4)=[76,77,66,82]from hA.eq]at hcut
 refine xa (Gu hcut rfl (by simp) rfl rfl rfl) ?_
 refine xa (GS (b:=[84,79,77,66]) rfl rfl) (AJ ?_)
 exact ⟨rfl,rfl⟩
theorem ax {B pr m c mt size area sum:Nat} {A:Option Addr} {l name:List UInt8} {F:List AE} {h0:AA} (st0:St B h0 h0 (E8 pr A m c 0 false::F)) (hr:Rd h0 A (l.map AN)) (hrB:∀h',BC B h0 h'→Rd h' A (l.map AN)) (hl:l.length=m) (hm:m≤1099511627776) (hmc:m≤c) (hA:At l 0 (F3 mt name size area sum)) (hok:JN mt name size area sum):
  AG Tryz.prog 211 [AM pr] h0 fun v h'=>v= .agg (Dy mt name size area sum).toArray∧St B h0 h' (E8 pr A m c (18+name.length) false::F):=by
 have st:=st0
 obtain ⟨a0,a4,a5,a6,a10,a14,a18,a22,_⟩:=TI hA
 have hln:=hA.len (by rw [Ii];omega)
 rw [Ii]at hln
 have hm2:=hok.m2
 have hsz:=hok.hs
 have hsu:=hok.hu
 have hnl:=hok.hn.1
 have w4:B2 4=4:=rfl
 have w1:B2 1=1:=rfl
 refine BE Tryz.func211 rfl fun _=>AB ?_
 refine xv (CK rfl) ?_
 rintro _ hp ⟨p2,rfl,hnew⟩
 replace st:=(st.new hnew).sw
 refine AJ ?_
 refine xk (KG (n:=4) st.here (hrB _ st.low) hl (by omega) hmc (by omega)) rfl ?_
 rintro v hp st2
 replace st:=(st.trans st2).sel 3 [0,2]
 simp only [BU,BV,An]at st
 refine AJ ?_
 refine xk (EE 5 (n:=mt) st.here (hrB _ st.low) hl (by omega) (by omega) (by rw [EF (by omega),w1,Mk a4 (by omega)]) rfl) rfl ?_
 rintro _ hp ⟨rfl,st2⟩
 replace st:=st.trans st2
 refine xa (Bj rfl rfl (by simp only [AI];omega)) ?_
 refine xa (AZ (ps:=[(0,nV mt)]) (cs:=(Dy mt [] 0 0 0).toArray) rfl rfl) ?_
 refine xv (CK rfl) ?_
 rintro _ hp ⟨p3,rfl,hnew⟩
 replace st:=(st.new hnew).sw
 refine xw (us:=Dy mt [] 0 0 0) st 1 (LM _ _ _ _ _) fun hp st=> ?_
 simp only [z0,z1]at st
 refine AJ ?_
 refine xk (EE 6 (n:=name.length) st.here (hrB _ st.low) hl (by omega) (by omega) (by rw [EF (by omega),w1,Mk a5 (by omega)]) rfl) rfl ?_
 rintro _ hp ⟨rfl,st2⟩
 replace st:=st.trans st2
 refine xa (Bj rfl rfl (by simp only [AI];omega)) (AH ?_)
 refine xk (EE 10 (n:=size) st.here (hrB _ st.low) hl (by omega) (by omega) (by rw [EF (by omega),w4,Gs a6 (by omega)]) rfl) rfl ?_
 rintro _ hp ⟨rfl,st2⟩
 replace st:=st.trans st2
 refine xa (Bj rfl rfl (by simp only [AI];omega)) (AC ?_)
 refine xk (EE 14 (n:=area) st.here (hrB _ st.low) hl (by omega) (by omega) (by rw [EF (by omega),w4,Gs a10 (by omega)]) rfl) rfl ?_
 rintro _ hp ⟨rfl,st2⟩
 replace st:=st.trans st2
 refine xa (Bj rfl rfl (by simp only [AI];omega)) (AC ?_)
 refine xk (EE 18 (n:=sum) st.here (hrB _ st.low) hl (by omega) (by omega) (by rw [EF (by omega),w4,Gs a14 (by omega)]) rfl) rfl ?_
 rintro _ hp ⟨rfl,st2⟩
 replace st:=st.trans st2
 refine AC ?_
 refine xj st 1 fun hp st=> ?_
 simp only [z0,z1]at st
 refine AC ?_
 refine xj st 1 fun hp st=> ?_
 simp only [z0,z1]at st
 refine AC ?_
 refine xj st 1 fun hp st=> ?_
 simp only [z0,z1]at st
 refine AH ?_
 refine xk (KG (n:=name.length) st.here (hrB _ st.low) hl (by omega) hmc (by omega)) rfl ?_
 rintro v hp st2
 replace st:=st.trans st2
 rw [show ((l.drop 18).take name.length)=name from a18.eq]at st
 obtain ⟨A7,n7,c7,rfl,hlen7,_,_,hrd7⟩:=st.row 1 rfl
 refine xa (Gu hrd7 rfl (by simpa using hlen7) rfl rfl rfl) (AC ?_)
 refine xj st 2 fun hp st=> ?_
 simp only [z0,z1]at st
 refine AF ?_
 refine xa (Ai (vs:=Dy mt name size area sum) (st.cells 2 rfl) rfl rfl rfl rfl) ?_
 refine xw (us:=Dy mt name size area sum) st 3 (LM _ _ _ _ _) fun hp st=> ?_
 simp only [z0,z1]at st
 refine AC ?_
 refine Af (.cons (Ax (vs:=Dy mt name size area sum) rfl rfl rfl (st.cells 3 rfl)) .nil) ?_
 exact ⟨rfl,st.sel 4 [0]⟩
theorem ay {tp n c p mt size area sum:Nat} {A:Option Addr} {b name:List UInt8} {h0:AA} (ht:CN h0 tp) (hr:Rd h0 A (b.map AN)) (hl:b.length=n) (hm:n≤1099511627776) (hnc:n≤c) (hA:At b p (F3 mt name size area sum)) (hok:JN mt name size area sum):
  AG Tryz.prog 162 [AM tp,.slice A n c,nV p] h0 fun v h'=>v=Al [.agg (Dy mt name size area sum).toArray,nV (p+(22+name.length)),nV 0]∧AV h0 h':=by
 have st:=St.start h0
 have hA0:=hA.at0
 obtain ⟨a0,a4,a5,a6,a10,a14,a18,a22,e22⟩:=TI hA0
 have hpl:=hA.len (by rw [Ii];omega)
 rw [Ii]at hpl
 have w4:B2 4=4:=rfl
 have a0':At b p [76,77,66,82]:=by unfold F3 FO at hA;exact hA.left.left.left.left.left.left
 refine Bg Tryz.func162 rfl fun _=>AB ?_
 refine xn st fun p6 hp st=>Aj ?_
 refine AT (.bool false) (congrArg Value.bool (zu (by omega))) (AH ?_)
 refine AT (.bool false) (congrArg Value.bool (zu (by omega))) (Aj ?_)
 refine xa (Bk rfl rfl (by omega) (by simp only [AI];omega)) (AC ?_)
 refine AT (.bool true) (congrArg Value.bool (decide_eq_true (by omega))) (AF ?_)
 refine xk (au (hr.ext st.low) hl hnc a0' hm) rfl ?_
 rintro _ _ ⟨rfl,rfl⟩
 refine xa (Bm rfl) (BP ?_)
 refine xa (FD rfl rfl rfl (by omega) hnc) ?_
 refine xk (LI) rfl ?_
 rintro _ hp ⟨pr,rfl,st2⟩
 replace st:=st.join st2
 simp only [z5,z4]at st
 have hcB:∀h',AV h0 h'→Rd h' (Eb A p 1 c) ((b.drop p).map AN):=fun h' hx=>by
  have:=(hr.ext hx).cut p 1 c (n-p) (by intro e;rw [z3];omega)
  rwa [zf,←List.map_drop,←List.map_take,za (by rw [z7];omega)]at this
 refine AH ?_
 refine xk (ax st.here (hcB _ st.low) (fun h' hh=>hcB _ (st.low.trans hh)) (by rw [z7,hl]) (by omega) (by omega) hA0 hok) rfl ?_
 rintro _ hp3 ⟨rfl,st3⟩
 replace st:=st.trans st3
 refine xw (us:=Dy mt name size area sum) st 1 (LM _ _ _ _ _) fun hp st=> ?_
 simp only [z0,z1]at st
 refine AP ?_
 refine xk (Mz (st.cell 0 rfl rfl)) rfl ?_
 rintro _ _ ⟨rfl,rfl⟩
 refine AC ?_
 refine xa (Jh rfl rfl rfl rfl (by omega) (by omega)) ?_
 have hcut:=(hr.ext st.low).cut p 1 c (18+name.length) (by intro e;rw [z3];omega)
 rw [zf,←List.map_drop,←List.map_take,e22]at hcut
 refine xk (Gb (ht.ext st.low) hcut (by rw [M6];omega) (by omega)) rfl ?_
 rintro _ _ ⟨rfl,rfl⟩
 have hsl:=Gz (FO mt name size area sum)
 refine AH ?_
 refine xk (EE (22+name.length) (n:=CM (FO mt name size area sum)) st.here (hcB _ st.low) (by rw [z7,hl]) (by omega) (by omega) (by rw [EF (by rw [z7,w4];omega),w4,Gs a22 hsl]) (by rw [w4];omega)) rfl ?_
 rintro _ hp ⟨rfl,st2⟩
 replace st:=st.trans st2
 refine AO ?_
 refine xk (H6 (st.cell 0 rfl rfl)) rfl ?_
 rintro _ _ ⟨rfl,rfl⟩
 refine xa (Bm rfl) (AP ?_)
 refine AT (.bool false) (congrArg Value.bool (zu (fun e=>e rfl))) (AH ?_)
 refine xa (Ai (vs:=Dy mt name size area sum) (st.cells 1 rfl) rfl rfl rfl rfl) ?_
 refine xk (T5 hok _) rfl ?_
 rintro _ hp2 ⟨rfl,hx⟩
 replace st:=st.ext hx
 refine xa (Bm rfl) (AL ?_)
 refine El (Ck [(3,.grow),(4,.pure)]) (by kernel_rfl) (by kernel_rfl) ?_
 refine xa (Ai (vs:=Dy mt name size area sum) (st.cells 1 rfl) rfl rfl rfl rfl) (AB ?_)
 refine BW (CT (Mz (st.cell 0 rfl rfl)) rfl (by kernel_rfl)) rfl rfl rfl (fun _ _ h=>h.2▸BC.refl _ _) ?_
 rintro _ _ ⟨rfl,rfl⟩
 refine AC ?_
 refine xw (us:=Dy mt name size area sum) st 1 (LM _ _ _ _ _) fun hp st=> ?_
 simp only [z0,z1]at st
 refine AF ?_
 refine Af (.cons (Ax (vs:=Dy mt name size area sum) rfl rfl rfl (st.cells 1 rfl)) (.cons (.tmp rfl) (.cons (.tmp rfl) .nil))) ?_
 exact ⟨rfl,st.low⟩
theorem fp {tp:Nat} {name:List UInt8} {h0:AA} (ht:CN h0 tp) (h:DU name):AG Tryz.prog 72 [AM tp,AU name] h0 fun v h'=>
  ∃ (v1:Value) (l:List UInt8),v=Al [v1,nV 0]∧l.length=9+name.length∧St h0.size h0 h' [row 5 1 v1 (l.map AN)]:=by
 have hnm:=h.1
 have st:=St.start h0
 refine Ac Tryz.func72 rfl fun _=>Aj ?_
 refine xk (Ja name _) rfl ?_
 rintro _ hp2 ⟨rfl,hx⟩
 replace st:=st.ext hx
 rw [decide_eq_true h]
 refine xa (Bm rfl) (AH ?_)
 refine xv (Jk (([84,79,77,66]:List UInt8).map AN) rfl rfl rfl rfl (by kernel_rfl) rfl) ?_
 rintro v hp hnew
 replace st:=st.new hnew
 obtain ⟨A,n,k,rfl,hlen,_,_,hrd⟩:=st.row 0 rfl
 obtain ⟨gb,o,rfl,_⟩:=hrd.at_ (by decide)
 refine xv (Lz st 0 rfl rfl rfl) ?_
 rintro _ hp ⟨rfl,st⟩
 refine AB ?_
 refine xa (Bj rfl rfl (by simp only [AI];omega)) ?_
 refine xv (Ep rfl rfl rfl) ?_
 rintro _ hp ⟨A,rfl,hx,hrd⟩
 have st:=st.ext hx
 refine BN (BY st 0 rfl (hrd) (rfl) (by simp [Value.one]) (by simp) rfl rfl rfl rfl rfl rfl rfl) rfl rfl rfl fun v hp st=> ?_
 simp only [z0,z1]at st
 rw [show ([84,79,77,66]:List UInt8).map AN++[Value.int .u8 (name.length:Int)]=(([84,79,77,66]:List UInt8)++[UInt8.ofNat name.length]).map AN by
  rw [List.map_append];simp only [zj,List.map_nil,AN,KU (show name.length<256 by omega)]]at st
 refine AL ?_
 refine BN (P1 st 0 rfl (by simp;omega) rfl rfl rfl rfl rfl rfl) rfl rfl rfl fun v hp st=> ?_
 simp only [z0]at st
 rw [←List.map_append]at st
 obtain ⟨L,hL⟩:∃L,([84,79,77,66]:List UInt8)++[UInt8.ofNat name.length]++name=L:=⟨_,rfl⟩
 have hLl:L.length=5+name.length:=by rw [←hL];simp;omega
 rw [hL]at st
 have hsl:=Gz L
 obtain ⟨A5,n5,c5,rfl,hlen5,_,_,hrd5⟩:=st.row 0 rfl
 refine AO ?_
 refine xk (Gb (ht.ext st.low) hrd5 (by simpa using hlen5) (by simp at hlen5;omega)) rfl ?_
 rintro _ _ ⟨rfl,rfl⟩
 refine xk (H8 (n:=CM L) st.here hsl (by omega)) rfl ?_
 rintro v hp st2
 replace st:=st.trans st2
 rw [show B2 4=4 by rfl]at st
 refine AJ ?_
 exact ⟨_,_,rfl,by rw [z2,Cs,hLl];omega,st⟩
end Go.Bn
end

section
namespace Go.Bn
open Go Proofs
@[reducible] def AY (m:Av):List Value:=[AU m.name,nV m.at_,nV m.frm,nV m.area,nV m.size,.int .u32 (m.sum:Int),nV m.meth]
theorem Cl (m:Av):∀u∈AY m,Value.one u=true:=by
 intro u hu
 simp only [AY,List.mem_cons,zl,or_false]at hu
 rcases hu with rfl | rfl | rfl | rfl | rfl | rfl | rfl <;> rfl
def Bf (l:List Av):List Value:=l.flatMap AY
theorem CX (l:List Av):(Bf l).length=l.length*7:=EO AY 7 (fun _=>rfl) l
theorem UD (l:List Av) (m:Av):Bf (l++[m])=Bf l++AY m:=by simp [Bf]
theorem NR (l:List Av):∀u∈Bf l,Value.one u=true:=fun u hu=>by
 obtain ⟨m,_,h⟩:=List.mem_flatMap.1 hu
 exact Cl m u h
structure JY (m:Av):Prop where
  hn:DU m.name
  ha:1024≤m.at_∧m.at_≤1073741824
  hf:m.frm=m.at_+(22+m.name.length)
  har:m.area≤262144
  hs:m.size≤65536
  hm:m.meth≤2
  hu:m.sum<4294967296
structure FC (l:List Av):Prop where
  len:l.length≤200
  srt:FK Av.name l
  ok:∀m∈l,JY m
theorem KF (m:Av):(HE m).length=18+m.name.length:=by
 simp only [HE,z2,Cs,ze,zk]
theorem Fz:∀ {l:List Av},(∀m∈l,JY m)→(Bw l).length≤l.length*82
 | [],_=>by simp [Bw]
 | m::l,h=>by
  have ih:=Fz (l:=l) fun x hx=>h x (zq _ hx)
  have:=(h m zp).hn.1
  simp only [Bw,zt,z2,KF,ze]at ih ⊢
  omega
theorem LD {n lo hi:Nat} (h:lo≤n∧n≤hi) (h0:AA):AG Tryz.prog 157 [nV n,nV lo,nV hi] h0 fun v h'=>v= .bool true∧h0=h':=by
 refine Bg Tryz.func157 rfl fun _=>Aj ?_
 refine AT (.bool true) (congrArg Value.bool (decide_eq_true (by omega))) (AJ ?_)
 refine AT (.bool true) (congrArg Value.bool (decide_eq_true (by omega))) (AJ ?_)
 exact ⟨rfl,rfl⟩
theorem Oy {m:Av} (h:JY m) (h0:AA):AG Tryz.prog 106 [.agg (AY m).toArray] h0 fun v h'=>v= .bool true∧AV h0 h':=by
 have st:=St.start h0
 have hnl:=h.hn.1
 have hat:=h.ha
 have hf:=h.hf
 refine BE Tryz.func106 rfl fun _=>AB ?_
 refine xb (us:=AY m) st fun p1 hp st=>AF ?_
 refine El (Ck [(2,.grow),(10,.grow)]) (by kernel_rfl) (by kernel_rfl) (AC ?_)
 refine xc st 0 1 ?_
 refine BW (CT (LD (lo:=1024) (hi:=1073741824) hat _) rfl (by kernel_rfl)) rfl rfl rfl (fun _ _ h=>h.2▸BC.refl _ _) ?_
 rintro _ _ ⟨rfl,rfl⟩
 refine AB ?_
 refine xc st 0 2 ?_
 refine AC ?_
 refine xc st 0 1 ?_
 refine AC ?_
 refine xc st 0 0 ?_
 refine BW (CT (Tz (by omega) _) rfl (by kernel_rfl)) rfl rfl rfl (fun _ _ h=>h.2▸BC.refl _ _) ?_
 rintro _ _ ⟨rfl,rfl⟩
 refine AB ?_
 refine AT (.bool true) (congrArg Value.bool (decide_eq_true (by omega))) (AP ?_)
 refine xc st 0 0 ?_
 refine xk (Ja m.name _) rfl ?_
 rintro _ hp2 ⟨rfl,hx⟩
 replace st:=st.ext hx
 rw [decide_eq_true h.hn]
 refine AF ?_
 refine xc st 0 6 ?_
 refine xk (LD (lo:=0) (hi:=2) ⟨Nat.zero_le _,h.hm⟩ _) rfl ?_
 rintro _ _ ⟨rfl,rfl⟩
 refine AF ?_
 refine xc st 0 3 ?_
 refine xk (LD (lo:=0) (hi:=262144) ⟨Nat.zero_le _,h.har⟩ _) rfl ?_
 rintro _ _ ⟨rfl,rfl⟩
 refine AF ?_
 refine xc st 0 4 ?_
 refine xk (LD (lo:=0) (hi:=65536) ⟨Nat.zero_le _,h.hs⟩ _) rfl ?_
 rintro _ _ ⟨rfl,rfl⟩
 refine AJ ?_
 exact ⟨rfl,st.low⟩
theorem fI {l:List Av} (h:FK Av.name l) {i:Nat} (hi:i+1<l.length):B5 (l[i]'(by omega)).name (l[i+1]'hi).name=true:=(List.pairwise_iff_getElem.1 h) i (i+1) (by omega) hi (by omega)
theorem Mx {n c:Nat} {A:Option Addr} {l:List Av} {h0:AA} (hr:Rd h0 A (Bf l)) (hl:l.length=n) (hM:FC l):AG Tryz.prog 124 [.slice A n c] h0 fun v h'=>v= .bool true∧AV h0 h':=by
 have hn:=hM.len
 refine BE Tryz.func124 rfl fun _=>BP ?_
 refine AT (.bool false) (congrArg Value.bool (zu (by omega))) (Bu ?_)
 refine BD (fun s=>n-s) (fun s=>[(0,.slice A n c),(8,.slice A n c),(9,nV n),(10,nV s)])
  (fun (s:Nat) hp=>s≤n∧AV h0 hp) 0 (Bt rfl rfl rfl rfl) ⟨Nat.zero_le _,AV.refl _⟩ ?_
 rintro s hp ⟨hs,hx⟩
 refine AH ?_
 refine AK rfl (fun h=> ?_) (fun h=> ?_)
 ·obtain ⟨bb,o,rfl,hc0⟩:=Rd.flat AY 7 hr (fun _=>rfl) (by omega) (by omega)
  have hcs:=fun j u (h:(AY (l[s]'(by omega)))[j]? =some u)=>Bz (a:=⟨bb,o+s*7+j,none⟩) hx (hc0 s (by omega) j u h)
  have st:=St.start hp
  refine AL ?_
  refine xa (Bp (i:=s) rfl rfl rfl (by omega)) ?_
  refine xa (Ai (vs:=AY (l[s]'(by omega))) hcs rfl rfl rfl rfl) ?_
  refine xn st fun p4 hp st=>AC ?_
  refine xw (us:=AY (l[s]'(by omega))) st 0 (Cl _) fun hp st=> ?_
  simp only [z0]at st
  refine AB ?_
  refine El (Ck [(1,.grow)]) (by kernel_rfl) (by kernel_rfl) ?_
  refine xa (Ai (vs:=AY (l[s]'(by omega))) (st.cells 0 rfl) rfl rfl rfl rfl) ?_
  refine BW (CT (Oy (hM.ok _ (List.getElem_mem (by omega))) _) rfl (by kernel_rfl)) rfl rfl rfl (fun _ _ h=>h.2) ?_
  rintro _ hp2 ⟨rfl,hx2⟩
  replace st:=st.ext hx2
  refine xa (Bm rfl) (AJ ?_)
  refine Am 21 rfl (fun h=> ?_) (fun h=> ?_)
  ·obtain ⟨s',rfl⟩:∃s',s=s'+1:=⟨s-1,by omega⟩
   refine AB ?_
   refine xa (Bk (n:=1) rfl rfl (by omega) (by simp only [AI];omega)) ?_
   refine xa (Bp (i:=s'+1-1) rfl rfl rfl (by omega)) (AC ?_)
   refine xl (Bz (a:=⟨bb,o+s'*7+0,none⟩) (hx.trans st.low) (hc0 s' (by omega) 0 (AU (l[s']'(by omega)).name) rfl)) rfl (AC ?_)
   refine xc st 0 0 ?_
   refine xa (b5 rfl rfl) ?_
   refine AT (.bool false) (congrArg Value.bool (by have hq:=fI hM.srt (show s'+1<l.length by omega);simp only [B5]at hq;rw [hq];rfl)) (BP ?_)
   exact Ad (_+1) (Bt rfl rfl rfl rfl) ⟨by omega,hx.trans st.low⟩ (by omega)
  ·refine Fv ?_
   exact Ad (_+1) (Bt rfl rfl rfl rfl) ⟨by omega,hx.trans st.low⟩ (by omega)
 ·refine AL ?_
  exact ⟨rfl,hx⟩
theorem ZN {n c:Nat} {A:Option Addr} {l:List Av} {h0:AA} (hr:Rd h0 A (Bf l)) (hl:l.length=n) (hn:n≤1000) (hM:∀m∈l,JY m):AG Tryz.prog 122 [.slice A n c] h0 fun v h'=>v=nV (Bw l).length∧AV h0 h':=by
 refine BE Tryz.func122 rfl fun _=>Bb ?_
 refine BD (fun s=>n-s) (fun s=>[(3,nV (Bw (l.take s)).length),(6,.slice A n c),(7,nV n),(8,nV s)])
  (fun (s:Nat) hp=>s≤n∧AV h0 hp) 0 (Bt rfl rfl rfl rfl) ⟨Nat.zero_le _,AV.refl _⟩ ?_
 rintro s hp ⟨hs,hx⟩
 have hdl:=Fz (l:=l.take s) fun m hm=>hM m (List.mem_of_mem_take hm)
 rw [z6]at hdl
 refine AH ?_
 refine AK rfl (fun h=> ?_) (fun h=> ?_)
 ·obtain ⟨bb,o,rfl,hc0⟩:=Rd.flat AY 7 hr (fun _=>rfl) (by omega) (by omega)
  have hcs:=fun j u (h:(AY (l[s]'(by omega)))[j]? =some u)=>Bz (a:=⟨bb,o+s*7+j,none⟩) hx (hc0 s (by omega) j u h)
  have st:=St.start hp
  have hnl:=(hM _ (List.getElem_mem (show s<l.length by omega))).hn.1
  have e:(Bw (l.take (s+1))).length=(Bw (l.take s)).length+(18+(l[s]'(by omega)).name.length):=by
   rw [List.take_add_one,z9 (by omega)]
   simp only [Bw,Option.toList_some,List.flatMap_append,zt,List.flatMap_nil,List.append_nil,z2,KF]
  refine AH ?_
  refine xa (Bp (i:=s) rfl rfl rfl (by omega)) ?_
  refine xa (Ai (vs:=AY (l[s]'(by omega))) hcs rfl rfl rfl rfl) ?_
  refine xn st fun p5 hp st=> ?_
  refine xw (us:=AY (l[s]'(by omega))) st 0 (Cl _) fun hp st=> ?_
  simp only [z0]at st
  refine AJ ?_
  refine xc st 0 0 ?_
  refine AC ?_
  refine xa (CH (m:=18) rfl rfl (by simp only [AI];omega)) (AC ?_)
  rw [←e]
  refine AO ?_
  exact Ad (s+1) (Bt rfl rfl rfl rfl) ⟨by omega,hx.trans st.low⟩ (by omega)
 ·refine AO ?_
  rw [za (by omega)]
  exact ⟨rfl,hx⟩
theorem ZO (m:Av) (B:List UInt8):B++HE m=B++[UInt8.ofNat m.meth,UInt8.ofNat m.name.length]++(Ay 4 m.at_++Ay 4 m.size++Ay 4 m.area++Ay 4 m.sum)++m.name:=by
 simp only [HE,z8]
theorem ZR {n c:Nat} {A:Option Addr} {l:List Av} {h0:AA} (hr:Rd h0 A (Bf l)) (hl:l.length=n) (hM:FC l):AG Tryz.prog 174 [.slice A n c] h0 fun v h'=>∃v1,v=Al [v1,nV 0]∧St h0.size h0 h' [row 5 1 v1 ((Bw l).map AN)]:=by
 have hn:=hM.len
 refine BE Tryz.func174 rfl fun _=>Aj ?_
 refine xk (Mx hr hl hM) rfl ?_
 rintro _ hp1 ⟨rfl,hx1⟩
 refine xa (Bm rfl) (Cp ?_)
 have st:=((St.start h0).ext hx1).nilrow 5 1
 refine BD (fun s=>n-s.1) (fun s=>[(4,s.2),(12,.slice A n c),(13,nV n),(14,nV s.1)])
  (fun (s:Nat×Value) hp=>s.1≤n∧St h0.size h0 hp [row 5 1 s.2 ((Bw (l.take s.1)).map AN)]) (0,.slice none 0 0) (Bt rfl rfl rfl rfl) ⟨Nat.zero_le _,st⟩ ?_
 clear st
 rintro ⟨s,v⟩ hp ⟨hs,st⟩
 simp only at hs st ⊢
 refine AH ?_
 refine AK rfl (fun h=> ?_) (fun h=> ?_)
 ·obtain ⟨m,hmm⟩:∃m,l[s]? =some m:=⟨_,z9 (by omega)⟩
  obtain ⟨bb,o,rfl,hc0⟩:=Rd.flat AY 7 hr (fun _=>rfl) (by omega) (by omega)
  have hms:=zc.1 hmm
  have hcs:=fun j u (h:(AY m)[j]? =some u)=>Bz (a:=⟨bb,o+s*7+j,none⟩) st.low (hc0 s (by omega) j u (by rw [hms.2];exact h))
  have hok:=hM.ok m (List.mem_of_getElem? hmm)
  have hnl:=hok.hn.1
  have hat:=hok.ha
  have har:=hok.har
  have hsz:=hok.hs
  have hmt:=hok.hm
  have hsu:=hok.hu
  have e:Bw (l.take (s+1))=Bw (l.take s)++HE m:=by
   rw [List.take_add_one,hmm]
   simp only [Bw,Option.toList_some,List.flatMap_append,zt,List.flatMap_nil,List.append_nil]
  have hdl:=Fz (l:=l.take s) fun m hm=>hM.ok m (List.mem_of_mem_take hm)
  rw [z6]at hdl
  rw [ZO]at e
  obtain ⟨D,hD⟩:∃D,Bw (l.take s)=D:=⟨_,rfl⟩
  rw [hD]at st hdl e
  refine AH ?_
  refine xa (Bp (i:=s) rfl rfl rfl (by omega)) ?_
  refine xa (Ai (vs:=AY m) hcs rfl rfl rfl rfl) ?_
  refine xv (CK rfl) ?_
  rintro _ hp ⟨p6,rfl,hnew⟩
  replace st:=st.new hnew
  refine xw (us:=AY m) st 0 (Cl _) fun hp st=> ?_
  simp only [z0]at st
  replace st:=st.sw
  refine AH ?_
  refine xc st 1 6 ?_
  refine xa (Bj rfl rfl (by simp only [AI];omega)) (AC ?_)
  refine xc st 1 0 ?_
  refine AC ?_
  refine xa (Bj rfl rfl (by simp only [AI];omega)) ?_
  refine xv (Jk [.int .u8 (m.meth:Int),.int .u8 (m.name.length:Int)] rfl rfl rfl rfl (by kernel_rfl) rfl) ?_
  rintro v hp hnew
  replace st:=st.new hnew
  obtain ⟨_,n2,_,rfl,hlen2,_,_,hrd2⟩:=st.row 0 rfl
  refine BN (BY st 1 rfl (hrd2) (by simpa using hlen2) (by simp [Value.one]) (by simp;omega) rfl rfl rfl rfl rfl rfl rfl) rfl rfl rfl fun v hp st=> ?_
  simp only [z0,z1]at st
  replace st:=st.sel 3 [1,2]
  simp only [BU,BV,An]at st
  rw [show D.map AN++[Value.int .u8 (m.meth:Int),.int .u8 (m.name.length:Int)]=(D++[UInt8.ofNat m.meth,UInt8.ofNat m.name.length]).map AN by
   rw [List.map_append];simp only [zj,List.map_nil,AN,KU (show m.meth<256 by omega),KU (show m.name.length<256 by omega)]]at st
  refine AL ?_
  refine xc st 1 1 ?_
  refine xa (Bj rfl rfl (by simp only [AI];omega)) (AC ?_)
  refine xc st 1 4 ?_
  refine xa (Bj rfl rfl (by simp only [AI];omega)) (AC ?_)
  refine xc st 1 3 ?_
  refine xa (Bj rfl rfl (by simp only [AI];omega)) (AC ?_)
  refine xc st 1 5 ?_
  refine xa (AZ (ps:=[(0,.int .u32 (m.at_:Int)),(1,.int .u32 (m.size:Int)),(2,.int .u32 (m.area:Int)),(3,.int .u32 (m.sum:Int))]) (cs:= #[.int .u32 (m.at_:Int),.int .u32 (m.size:Int),.int .u32 (m.area:Int),.int .u32 (m.sum:Int)]) rfl rfl) (AF ?_)
  obtain ⟨H,hH⟩:∃H,D++[UInt8.ofNat m.meth,UInt8.ofNat m.name.length]=H:=⟨_,rfl⟩
  have hHl:H.length=D.length+2:=by rw [←hH];simp
  rw [hH]at st
  refine BD (fun s=>4-s.1) (fun x=>[(4,x.2),(6,AM p6),(12,.slice (some ⟨bb,o,none⟩) n c),(13,nV n),(14,nV s),(39,.agg #[.int .u32 (m.at_:Int),.int .u32 (m.size:Int),.int .u32 (m.area:Int),.int .u32 (m.sum:Int)]),(40,nV x.1)])
   (fun (s:Nat×Value) hp=>s.1≤4∧St h0.size h0 hp [row 5 1 s.2 ((H++(([m.at_,m.size,m.area,m.sum]:List Nat).take s.1).flatMap (Ay 4)).map AN),pt p6 92 (AY m)])
   (0,_) (Fq rfl rfl rfl rfl rfl rfl rfl) ⟨by omega,by simpa using st⟩ ?_
  clear st hlen2 hnew hrd2
  rintro ⟨i,v⟩ hp ⟨hi,st⟩
  simp only at st hi ⊢
  refine AH ?_
  refine AK rfl (fun h=> ?_) (fun h=> ?_)
  ·have h3:i=0∨i=1∨i=2∨i=3:=by omega
   obtain ⟨q,hq,hql,hix,htk⟩:∃q:Nat,q<4294967296∧(H++(([m.at_,m.size,m.area,m.sum]:List Nat).take i).flatMap (Ay 4)).length≤100000∧(#[.int .u32 (m.at_:Int),.int .u32 (m.size:Int),.int .u32 (m.area:Int),.int .u32 (m.sum:Int)]:Array Value)[i]? =some (.int .u32 (q:Int))∧(([m.at_,m.size,m.area,m.sum]:List Nat).take (i+1)).flatMap (Ay 4)=(([m.at_,m.size,m.area,m.sum]:List Nat).take i).flatMap (Ay 4)++Ay 4 q:=by
    rcases h3 with rfl | rfl | rfl | rfl
    ·exact ⟨m.at_,by omega,by simp;omega,rfl,by simp⟩
    ·exact ⟨m.size,by omega,by simp [Cs];omega,rfl,by simp⟩
    ·exact ⟨m.area,by omega,by simp [Cs];omega,rfl,by simp⟩
    ·exact ⟨m.sum,hsu,by simp [Cs];omega,rfl,by simp⟩
   refine AH ?_
   refine xa (Lj rfl rfl rfl (by omega) hix) (AH ?_)
   refine xk (H8 (n:=q) st.here hq (by omega)) rfl ?_
   rintro v hp st2
   replace st:=st.trans st2
   rw [show B2 4=4 by rfl,z8,←htk]at st
   refine AO ?_
   exact Ad (i+1,v) (Fq rfl rfl rfl rfl rfl rfl rfl) ⟨by simp only;omega,st⟩ (by simp only;omega)
  ·obtain rfl:i=4:=by omega
   have e12:(([m.at_,m.size,m.area,m.sum]:List Nat).take 4).flatMap (Ay 4)=Ay 4 m.at_++Ay 4 m.size++Ay 4 m.area++Ay 4 m.sum:=by simp
   rw [e12]at st
   refine AJ ?_
   refine xc st 1 0 ?_
   refine BN (P1 st 0 rfl (by simp [Cs];omega) rfl rfl rfl rfl rfl rfl) rfl rfl rfl fun v hp st=> ?_
   simp only [z0]at st
   rw [←List.map_append,←hH,←e]at st
   refine AO ?_
   exact Ad (s+1,v) (Bt rfl rfl rfl rfl) ⟨by simp only;omega,st.sel 2 [0]⟩ (by simp only;omega)
 ·refine AP ?_
  rw [za (by omega)]at st
  exact ⟨_,rfl,st⟩
end Go.Bn
end

section
namespace Go.Bn
open Go Proofs
theorem ZP {l:List UInt8} {a:Nat} {m:Av} (h:At l a (HE m)):
  At l a [UInt8.ofNat m.meth]∧At l (a+1) [UInt8.ofNat m.name.length]∧At l (a+2) (Ay 4 m.at_)∧At l (a+6) (Ay 4 m.size)∧At l (a+10) (Ay 4 m.area)∧At l (a+14) (Ay 4 m.sum)∧At l (a+18) m.name:=by
 unfold HE at h
 have a1:=h.left.left.left.left.left
 have a2:=h.left.left.left.left.right
 have a3:=h.left.left.left.right
 have a4:=h.left.left.right
 have a5:=h.left.right
 have a6:=h.right
 simp only [z2,ze,zk,Cs,Nat.reduceAdd,Nat.zero_add]at a2 a3 a4 a5 a6
 exact ⟨At.left (c:=[UInt8.ofNat m.meth]) (e:=[UInt8.ofNat m.name.length]) a1,At.right (c:=[UInt8.ofNat m.meth]) (e:=[UInt8.ofNat m.name.length]) a1,a2,a3,a4,a5,a6⟩
theorem ZQ {B pr n c a:Nat} {m:Av} {A:Option Addr} {l:List UInt8} {F:List AE} {h0:AA} (st0:St B h0 h0 (E8 pr A n c a false::F)) (hrB:∀h',BC B h0 h'→Rd h' A (l.map AN)) (hl:l.length=n) (hn:n≤1099511627776) (hnc:n≤c) (hA:At l a (HE m)) (hok:JY m):
  AG Tryz.prog 255 [AM pr] h0 fun v h'=>v= .agg (AY m).toArray∧St B h0 h' (E8 pr A n c (a+(18+m.name.length)) false::F):=by
 have st:=st0
 obtain ⟨a0,a1,a2,a6,a10,a14,a18⟩:=ZP hA
 have hln:=hA.len (by rw [KF];omega)
 rw [KF]at hln
 have hnl:=hok.hn.1
 have hat:=hok.ha
 have har:=hok.har
 have hsz:=hok.hs
 have hmt:=hok.hm
 have hsu:=hok.hu
 have hfr:=hok.hf
 have w4:B2 4=4:=rfl
 have w1:B2 1=1:=rfl
 refine BE Tryz.func255 rfl fun _=>AB ?_
 refine xv (CK rfl) ?_
 rintro _ hp ⟨p2,rfl,hnew⟩
 replace st:=(st.new hnew).sw
 refine AJ ?_
 refine xk (EE (a+1) (n:=m.meth) st.here (hrB _ st.low) hl (by omega) (by omega) (by rw [EF (by omega),w1,Mk a0 (by omega)]) rfl) rfl ?_
 rintro _ hp ⟨rfl,st2⟩
 replace st:=st.trans st2
 refine xa (Bj rfl rfl (by simp only [AI];omega)) ?_
 refine xa (AZ (ps:=[(6,nV m.meth)]) (cs:=(AY ⟨[],0,0,0,0,0,m.meth⟩).toArray) rfl rfl) ?_
 refine xv (CK rfl) ?_
 rintro _ hp ⟨p3,rfl,hnew⟩
 replace st:=(st.new hnew).sw
 refine xw (us:=AY ⟨[],0,0,0,0,0,m.meth⟩) st 1 (Cl _) fun hp st=> ?_
 simp only [z0,z1]at st
 refine AJ ?_
 refine xk (EE (a+2) (n:=m.name.length) st.here (hrB _ st.low) hl (by omega) (by omega) (by rw [EF (by omega),w1,Mk a1 (by omega)]) rfl) rfl ?_
 rintro _ hp ⟨rfl,st2⟩
 replace st:=st.trans st2
 refine xa (Bj rfl rfl (by simp only [AI];omega)) (AH ?_)
 refine xk (EE (a+6) (n:=m.at_) st.here (hrB _ st.low) hl (by omega) (by omega) (by rw [EF (by omega),w4,Gs a2 (by omega)]) rfl) rfl ?_
 rintro _ hp ⟨rfl,st2⟩
 replace st:=st.trans st2
 refine xa (Bj rfl rfl (by simp only [AI];omega)) (AC ?_)
 refine xk (EE (a+10) (n:=m.size) st.here (hrB _ st.low) hl (by omega) (by omega) (by rw [EF (by omega),w4,Gs a6 (by omega)]) rfl) rfl ?_
 rintro _ hp ⟨rfl,st2⟩
 replace st:=st.trans st2
 refine xa (Bj rfl rfl (by simp only [AI];omega)) (AC ?_)
 refine xk (EE (a+14) (n:=m.area) st.here (hrB _ st.low) hl (by omega) (by omega) (by rw [EF (by omega),w4,Gs a10 (by omega)]) rfl) rfl ?_
 rintro _ hp ⟨rfl,st2⟩
 replace st:=st.trans st2
 refine xa (Bj rfl rfl (by simp only [AI];omega)) (AC ?_)
 refine xk (EE (a+18) (n:=m.sum) st.here (hrB _ st.low) hl (by omega) (by omega) (by rw [EF (by omega),w4,Gs a14 (by omega)]) rfl) rfl ?_
 rintro _ hp ⟨rfl,st2⟩
 replace st:=st.trans st2
 refine AC ?_
 refine xj st 1 fun hp st=> ?_
 simp only [z0,z1]at st
 refine AC ?_
 refine xj st 1 fun hp st=> ?_
 simp only [z0,z1]at st
 refine AC ?_
 refine xj st 1 fun hp st=> ?_
 simp only [z0,z1]at st
 refine AC ?_
 refine xj st 1 fun hp st=> ?_
 simp only [z0,z1]at st
 refine AH ?_
 refine xk (KG (n:=m.name.length) st.here (hrB _ st.low) hl (by omega) hnc (by omega)) rfl ?_
 rintro v hp st2
 replace st:=st.trans st2
 rw [show ((l.drop (a+18)).take m.name.length)=m.name from a18.eq]at st
 obtain ⟨A7,n7,c7,rfl,hlen7,_,_,hrd7⟩:=st.row 1 rfl
 refine xa (Gu hrd7 rfl (by simpa using hlen7) rfl rfl rfl) (AC ?_)
 refine xj st 2 fun hp st=> ?_
 simp only [z0,z1]at st
 refine AB ?_
 refine El (Ck [(4,.grow)]) (by kernel_rfl) (by kernel_rfl) (AC ?_)
 refine xc st 2 1 ?_
 refine AC ?_
 refine xc st 2 0 ?_
 refine BW (CT (Tz (by omega) _) rfl (by kernel_rfl)) rfl rfl rfl (fun _ _ h=>h.2▸BC.refl _ _) ?_
 rintro _ _ ⟨rfl,rfl⟩
 refine AC ?_
 rw [←hfr]
 refine AC ?_
 refine xj st 2 fun hp st=> ?_
 simp only [z0,z1]at st
 refine AF ?_
 refine xa (Ai (vs:=AY m) (st.cells 2 rfl) rfl rfl rfl rfl) ?_
 refine xw (us:=AY m) st 3 (Cl _) fun hp st=> ?_
 simp only [z0,z1]at st
 refine AC ?_
 refine Af (.cons (Ax (vs:=AY m) rfl rfl rfl (st.cells 3 rfl)) .nil) ?_
 rw [Nat.add_assoc]at st
 exact ⟨rfl,st.sel 4 [0]⟩
theorem At.mem {l:List UInt8}:∀ {ms:List Av} {a:Nat},At l a (Bw ms)→∀ {i:Nat} {m:Av},ms[i]? =some m→At l (a+(Bw (ms.take i)).length) (HE m)
 | [],_,_,_,_,hm=>by simp at hm
 | x::ms,a,h,0,m,hm=>by
  simp at hm;subst hm
  simp only [Bw,zt]at h
  simpa [Bw]using h.left
 | x::ms,a,h,i+1,m,hm=>by
  simp only [Bw,zt]at h
  have:=At.mem (ms:=ms) h.right (i:=i) (by simpa using hm)
  simp only [Bw,List.take_succ_cons,zt,z2]at this ⊢
  rwa [←Nat.add_assoc]
theorem ZW {n c:Nat} {A:Option Addr} {ms:List Av} {h0:AA} (hr:Rd h0 A ((Bw ms).map AN)) (hl:(Bw ms).length=n) (hnc:n≤c) (hM:FC ms):
  AG Tryz.prog 226 [.slice A n c,nV ms.length] h0 fun v h'=>∃v1,v=Al [v1,nV 0]∧St h0.size h0 h' [row 92 7 v1 (Bf ms)]:=by
 have hcn:=hM.len
 have hdl:=Fz hM.ok
 have hA:At (Bw ms) 0 (Bw ms):=fun i hi=>by rw [Nat.zero_add]
 refine Ac Tryz.func226 rfl fun _=>Aj ?_
 refine xk (LD (lo:=0) (hi:=200) ⟨Nat.zero_le _,hcn⟩ _) rfl ?_
 rintro _ _ ⟨rfl,rfl⟩
 refine xa (Bm rfl) (AL ?_)
 refine xk (LI) rfl ?_
 rintro _ hp ⟨pr,rfl,st⟩
 refine B3 ?_
 replace st:=(st.nilrow 92 7).sw
 refine BD (fun s=>ms.length-s.1) (fun s=>[(6,AM pr),(7,s.2),(13,nV ms.length),(14,nV s.1)])
  (fun (s:Nat×Value) hp=>s.1≤ms.length∧St h0.size h0 hp [E8 pr A n c (Bw (ms.take s.1)).length false,row 92 7 s.2 (Bf (ms.take s.1))]) (0,.slice none 0 0) (Bt rfl rfl rfl rfl) ⟨Nat.zero_le _,st⟩ ?_
 clear st
 rintro ⟨s,v⟩ hp ⟨hs,st⟩
 simp only at hs st ⊢
 refine AH ?_
 refine AK rfl (fun h=> ?_) (fun h=> ?_)
 ·obtain ⟨m,hmm⟩:∃m,ms[s]? =some m:=⟨_,z9 (by omega)⟩
  have hok:=hM.ok m (List.mem_of_getElem? hmm)
  have hAm:=hA.mem hmm
  rw [Nat.zero_add]at hAm
  have e:Bw (ms.take (s+1))=Bw (ms.take s)++HE m:=by
   rw [List.take_add_one,hmm]
   simp only [Bw,Option.toList_some,List.flatMap_append,zt,List.flatMap_nil,List.append_nil]
  have e2:Bf (ms.take (s+1))=Bf (ms.take s)++AY m:=by
   rw [List.take_add_one,hmm,←UD];rfl
  have e3:=congrArg List.length e
  rw [z2,KF]at e3
  refine AL ?_
  refine xk (ZQ st.here (fun h' hh=>hr.ext (st.low.trans hh)) hl (by omega) hnc hAm hok) rfl ?_
  rintro _ hp2 ⟨rfl,st2⟩
  replace st:=st.trans st2
  rw [←e3]at st
  refine xv (D4 (us:=AY m) rfl rfl rfl rfl (by kernel_rfl)) ?_
  rintro _ hp ⟨A2,rfl,hx,hrd⟩
  replace st:=st.ext hx
  refine BN (BY st 1 rfl (hrd) (rfl) (Cl m) (by rw [CX,z6];simp;omega) rfl rfl rfl rfl rfl rfl rfl) rfl rfl rfl fun v hp st=> ?_
  simp only [z0,z1]at st
  rw [←e2]at st
  refine AO ?_
  exact Ad (s+1,v) (Bt rfl rfl rfl rfl) ⟨by simp only;omega,st⟩ (by simp only;omega)
 ·rw [za (by omega)]at st
  obtain ⟨A3,n3,c3,rfl,hn3,_,_,hrd3⟩:=st.row 1 rfl
  rw [CX]at hn3
  refine AL ?_
  refine xk (H6 (st.cell 0 rfl rfl)) rfl ?_
  rintro _ _ ⟨rfl,rfl⟩
  refine xa (Bm rfl) (AL ?_)
  refine xk (O5 (st.cell 0 rfl rfl) (st.cell 0 rfl rfl) (by omega) (by omega)) rfl ?_
  rintro _ _ ⟨rfl,rfl⟩
  refine AC ?_
  refine AT (.bool false) (congrArg Value.bool (zu (by omega))) (AB ?_)
  refine xk (Mx hrd3 (by omega) hM) rfl ?_
  rintro _ hp3 ⟨rfl,hx3⟩
  replace st:=st.ext hx3
  refine xa (Bm rfl) (B3 ?_)
  exact ⟨_,rfl,st.sel 2 [1]⟩
end Go.Bn
end

section
namespace Go.Bn
open Go Proofs
@[reducible] def FN (c n s:Nat):List Value:=[nV c,nV n,.int .u32 (s:Int)]
theorem O9 (c n s:Nat):∀u∈FN c n s,Value.one u=true:=by
 intro u hu
 simp only [FN,List.mem_cons,zl,or_false]at hu
 rcases hu with rfl | rfl | rfl <;> rfl
def F0 (c n s:Nat):List UInt8:=[70,79,79,84]++Ay 4 c++Ay 4 n++Ay 4 s
theorem M3 (c n s:Nat):(F0 c n s).length=16:=by simp only [F0,z2,Cs,ze,zk]
def JM (c n s:Nat):List UInt8:=F0 c n s++Ay 4 (CM (F0 c n s))
theorem M4 (c n s:Nat):(JM c n s).length=20:=by rw [JM,z2,M3,Cs]
theorem M2 (l:List Av):CV l=Bw l++JM l.length (Bw l).length (CM (Bw l)):=rfl
theorem JL (l:List Av):(CV l).length=(Bw l).length+20:=by rw [M2,z2,M4]
theorem Un {c n s:Nat} (h:c≤200∧n≤16400) (h0:AA):AG Tryz.prog 221 [.agg (FN c n s).toArray] h0 fun v h'=>v= .bool true∧AV h0 h':=by
 have st:=St.start h0
 refine BE Tryz.func221 rfl fun _=>AB ?_
 refine xb (us:=FN c n s) st fun p1 hp st=>AH ?_
 refine xc st 0 0 ?_
 refine AC ?_
 refine AT (.bool true) (congrArg Value.bool (decide_eq_true (by omega))) (AB ?_)
 refine xc st 0 0 ?_
 refine AC ?_
 refine AT (.bool true) (congrArg Value.bool (decide_eq_true (by omega))) (AF ?_)
 refine xc st 0 1 ?_
 refine AC ?_
 refine AT (.bool true) (congrArg Value.bool (decide_eq_true (by omega))) (AF ?_)
 refine xc st 0 1 ?_
 refine AC ?_
 refine AT (.bool true) (congrArg Value.bool (decide_eq_true (by omega))) (AJ ?_)
 exact ⟨rfl,st.low⟩
theorem cV {tp c n s:Nat} {h0:AA} (ht:CN h0 tp) (h:c≤200∧n≤16400) (hs:s<4294967296):AG Tryz.prog 175 [AM tp,.agg (FN c n s).toArray] h0 fun v h'=>
  ∃v1,v=Al [v1,nV 0]∧St h0.size h0 h' [row 5 1 v1 ((JM c n s).map AN)]:=by
 have st:=St.start h0
 refine Ac Tryz.func175 rfl fun _=>AB ?_
 refine xv (Bv (cs:=FN c n s) rfl rfl) ?_
 rintro _ hp ⟨p3,rfl,hnew⟩
 replace st:=st.new hnew
 refine AL ?_
 refine xa (Ai (vs:=FN c n s) (st.cells 0 rfl) rfl rfl rfl rfl) ?_
 refine xk (Un h _) rfl ?_
 rintro _ hp2 ⟨rfl,hx⟩
 replace st:=st.ext hx
 refine xa (Bm rfl) (AH ?_)
 refine xv (Jk (([70,79,79,84]:List UInt8).map AN) rfl rfl rfl rfl (by kernel_rfl) rfl) ?_
 rintro v hp hnew
 replace st:=st.new hnew
 obtain ⟨A,n1,k,rfl,hlen,_,_,hrd⟩:=st.row 0 rfl
 obtain ⟨gb,o,rfl,_⟩:=hrd.at_ (by decide)
 refine xv (Lz st 0 rfl rfl rfl) ?_
 rintro _ hp ⟨rfl,st⟩
 refine AL ?_
 refine xc st 1 0 ?_
 refine xa (Bj rfl rfl (by simp only [AI];omega)) (AC ?_)
 refine xc st 1 1 ?_
 refine xa (Bj rfl rfl (by simp only [AI];omega)) (AC ?_)
 refine xc st 1 2 ?_
 refine xa (AZ (ps:=[(0,.int .u32 (c:Int)),(1,.int .u32 (n:Int)),(2,.int .u32 (s:Int))]) (cs:= #[.int .u32 (c:Int),.int .u32 (n:Int),.int .u32 (s:Int)]) rfl rfl) (AF ?_)
 refine BD (fun x=>3-x.1) (fun x=>[(0,AM tp),(6,x.2),(22,.agg #[.int .u32 (c:Int),.int .u32 (n:Int),.int .u32 (s:Int)]),(23,nV x.1)])
  (fun (x:Nat×Value) hp=>x.1≤3∧St h0.size h0 hp [row 5 1 x.2 ((([70,79,79,84]:List UInt8)++(([c,n,s]:List Nat).take x.1).flatMap (Ay 4)).map AN)])
  (0,_) (Bt rfl rfl rfl rfl) ⟨by omega,by simpa [BU,BV,An]using st.sel 2 [0]⟩ ?_
 clear st hrd hlen hnew hx
 rintro ⟨i,v⟩ hp ⟨hi,st⟩
 simp only at st hi ⊢
 refine AH ?_
 refine AK rfl (fun h=> ?_) (fun h=> ?_)
 ·have h3:i=0∨i=1∨i=2:=by omega
  obtain ⟨q,hq,hql,hix,htk⟩:∃q:Nat,q<4294967296∧(([70,79,79,84]:List UInt8)++(([c,n,s]:List Nat).take i).flatMap (Ay 4)).length≤100∧(#[.int .u32 (c:Int),.int .u32 (n:Int),.int .u32 (s:Int)]:Array Value)[i]? =some (.int .u32 (q:Int))∧(([c,n,s]:List Nat).take (i+1)).flatMap (Ay 4)=(([c,n,s]:List Nat).take i).flatMap (Ay 4)++Ay 4 q:=by
   rcases h3 with rfl | rfl | rfl
   ·exact ⟨c,by omega,by simp,rfl,by simp⟩
   ·exact ⟨n,by omega,by simp [Cs],rfl,by simp⟩
   ·exact ⟨s,hs,by simp [Cs],rfl,by simp⟩
  refine AH ?_
  refine xa (Lj rfl rfl rfl (by omega) hix) (AH ?_)
  refine xk (H8 (n:=q) st.here hq (by omega)) rfl ?_
  rintro v hp st2
  replace st:=st.trans st2
  rw [show B2 4=4 by rfl,z8,←htk]at st
  refine AO ?_
  exact Ad (i+1,v) (Bt rfl rfl rfl rfl) ⟨by simp only;omega,st⟩ (by simp only;omega)
 ·obtain rfl:i=3:=by omega
  have e12:([70,79,79,84]:List UInt8)++(([c,n,s]:List Nat).take 3).flatMap (Ay 4)=F0 c n s:=by simp [F0]
  rw [e12]at st
  have hsl:=Gz (F0 c n s)
  have hhl:=M3 c n s
  obtain ⟨A5,n5,c5,rfl,hlen5,_,_,hrd5⟩:=st.row 0 rfl
  refine AL ?_
  refine xk (Gb (ht.ext st.low) hrd5 (by simpa using hlen5) (by simp at hlen5;omega)) rfl ?_
  rintro _ _ ⟨rfl,rfl⟩
  refine xk (H8 (n:=CM (F0 c n s)) st.here hsl (by omega)) rfl ?_
  rintro v hp st2
  replace st:=st.trans st2
  rw [show B2 4=4 by rfl]at st
  refine AJ ?_
  exact ⟨_,rfl,st⟩
theorem Zm {l:List UInt8} {c n s:Nat} (h:At l 0 (JM c n s)):At l 0 [70,79,79,84]∧At l 4 (Ay 4 c)∧At l 8 (Ay 4 n)∧At l 12 (Ay 4 s)∧At l 16 (Ay 4 (CM (F0 c n s)))∧l.take 16=F0 c n s:=by
 have h0:At l 0 (F0 c n s):=h.left
 have e0:=h.right
 have e1:=h0.take0
 rw [M3]at e0 e1
 unfold F0 at h0
 have a1:=h0.left.left.left
 have a2:=h0.left.left.right
 have a3:=h0.left.right
 have a4:=h0.right
 simp only [z2,ze,zk,Cs,Nat.reduceAdd,Nat.zero_add]at a2 a3 a4 e0
 exact ⟨a1,a2,a3,a4,e0,e1⟩
theorem cZ {tp m k c n s:Nat} {A:Option Addr} {b:List UInt8} {h0:AA} (ht:CN h0 tp) (hr:Rd h0 A (b.map AN)) (hl:b.length=m) (hm:m≤1099511627776) (hmk:m≤k) (h20:20≤m) (hA:At b (m-20) (JM c n s)) (hok:c≤200∧n≤16400) (hs:s<4294967296):
  AG Tryz.prog 225 [AM tp,.slice A m k] h0 fun v h'=>v=Al [.agg (FN c n s).toArray,nV 0]∧AV h0 h':=by
 have st:=St.start h0
 have hA0:=hA.at0
 obtain ⟨a0,a4,a8,a12,a16,e16⟩:=Zm hA0
 have w4:B2 4=4:=rfl
 have hsl:=Gz (F0 c n s)
 refine Ac Tryz.func225 rfl fun _=>AB ?_
 refine xn st fun p4 hp st=>AP ?_
 refine AT (.bool false) (congrArg Value.bool (zu (by omega))) (AP ?_)
 refine xa (Bk (n:=20) rfl rfl (by omega) (by simp only [AI];omega)) ?_
 refine xa (FD rfl rfl rfl (by omega) hmk) ?_
 rw [show m - (m-20)=20 by omega]
 refine AH ?_
 refine xk (LI) rfl ?_
 rintro _ hp ⟨pr,rfl,st2⟩
 replace st:=st.join st2
 simp only [z5,z4]at st
 have hcB:∀h',AV h0 h'→Rd h' (Eb A (m-20) 1 k) ((b.drop (m-20)).map AN):=fun h' hx=>by
  have:=(hr.ext hx).cut (m-20) 1 k 20 (by intro e;rw [z3];omega)
  rwa [zf,←List.map_drop,←List.map_take,za (by rw [z7];omega)]at this
 have hl20:(b.drop (m-20)).length=20:=by rw [z7];omega
 refine AH ?_
 refine xk (KG (n:=4) st.here (hcB _ st.low) hl20 (by omega) (by omega) (by omega)) rfl ?_
 rintro v hp st2
 replace st:=st.trans st2
 rw [List.drop_zero,show (b.drop (m-20)).take 4=[70,79,79,84]from a0.take0]at st
 obtain ⟨A7,n7,c7,rfl,hlen7,_,_,hrd7⟩:=st.row 1 rfl
 refine xa (Gu hrd7 rfl (by simpa using hlen7) rfl rfl rfl) (AH ?_)
 refine xk (EE 8 (n:=c) st.here (hcB _ st.low) hl20 (by omega) (by omega) (by rw [EF (by rw [hl20,w4];omega),w4,Gs a4 (by omega)]) rfl) rfl ?_
 rintro _ hp ⟨rfl,st2⟩
 replace st:=st.trans st2
 refine xa (Bj rfl rfl (by simp only [AI];omega)) (AC ?_)
 refine xk (EE 12 (n:=n) st.here (hcB _ st.low) hl20 (by omega) (by omega) (by rw [EF (by rw [hl20,w4];omega),w4,Gs a8 (by omega)]) rfl) rfl ?_
 rintro _ hp ⟨rfl,st2⟩
 replace st:=st.trans st2
 refine xa (Bj rfl rfl (by simp only [AI];omega)) (AC ?_)
 refine xk (EE 16 (n:=s) st.here (hcB _ st.low) hl20 (by omega) (by omega) (by rw [EF (by rw [hl20,w4];omega),w4,Gs a12 hs]) rfl) rfl ?_
 rintro _ hp ⟨rfl,st2⟩
 replace st:=st.trans st2
 refine xa (AZ (ps:=[(0,nV c),(1,nV n),(2,.int .u32 (s:Int))]) (cs:=(FN c n s).toArray) rfl rfl) ?_
 refine xv (CK rfl) ?_
 rintro _ hp ⟨p8,rfl,hnew8⟩
 replace st:=st.new hnew8
 refine xw (us:=FN c n s) st 0 (O9 _ _ _) fun hp st=> ?_
 simp only [z0]at st
 replace st:=st.sw
 refine AL ?_
 refine xa (F9 (b:=[70,79,79,84]) rfl rfl) (AJ ?_)
 refine GK ((Ck [(4,.pure)])) [0,2,3,4,1,5,6,7] (by kernel_rfl) (by kernel_rfl) rfl (AF ?_)
 refine xa (KZ (h:=16) rfl rfl rfl (by omega)) ?_
 rw [H1]
 refine xk (EE 20 (n:=CM (F0 c n s)) st.here (hcB _ st.low) hl20 (by omega) (by omega) (by rw [EF (by rw [hl20,w4];omega),w4,Gs a16 hsl]) rfl) rfl ?_
 rintro _ hp ⟨rfl,st2⟩
 replace st:=st.trans st2
 have hcut:=(hcB _ st.low).take 16
 rw [←List.map_take,e16]at hcut
 refine xk (Gb (ht.ext st.low) hcut (M3 c n s) (by omega)) rfl ?_
 rintro _ _ ⟨rfl,rfl⟩
 refine AC ?_
 refine AT (.bool false) (congrArg Value.bool (zu (fun e=>e rfl))) (AH ?_)
 refine xa (Ai (vs:=FN c n s) (st.cells 1 rfl) rfl rfl rfl rfl) ?_
 refine xk (Un hok _) rfl ?_
 rintro _ hp2 ⟨rfl,hx⟩
 replace st:=st.ext hx
 refine xa (Bm rfl) (AO ?_)
 refine xa (Ai (vs:=FN c n s) (st.cells 1 rfl) rfl rfl rfl rfl) ?_
 refine xw (us:=FN c n s) st 3 (O9 _ _ _) fun hp st=> ?_
 simp only [z0,z1]at st
 refine AB ?_
 refine Af (.cons (Ax (vs:=FN c n s) rfl rfl rfl (st.cells 3 rfl)) (.cons (.tmp rfl) .nil)) ?_
 exact ⟨rfl,st.low⟩
theorem Uu {tp n c:Nat} {A:Option Addr} {l:List Av} {h0:AA} (ht:CN h0 tp) (hr:Rd h0 A (Bf l)) (hl:l.length=n) (hM:FC l):AG Tryz.prog 125 [AM tp,.slice A n c] h0 fun v h'=>∃v1,v=Al [v1,nV 0]∧St h0.size h0 h' [row 5 1 v1 ((CV l).map AN)]:=by
 have hn:=hM.len
 have hdl:=Fz hM.ok
 refine Ac Tryz.func125 rfl fun _=>AP ?_
 refine xk (ZR hr hl hM) rfl ?_
 rintro _ hp1 ⟨v1,rfl,st⟩
 obtain ⟨A5,n5,c5,rfl,hlen5,_,_,hrd5⟩:=st.row 0 rfl
 rw [z3,zf]at hlen5
 have hsl:=Gz (Bw l)
 refine RG ?_
 refine xk (Gb (ht.ext st.low) hrd5 hlen5 (by omega)) rfl ?_
 rintro _ _ ⟨rfl,rfl⟩
 refine xa (AZ (ps:=[(0,nV n),(1,nV n5),(2,.int .u32 (CM (Bw l):Nat))]) (cs:=(FN n n5 (CM (Bw l))).toArray) rfl rfl) ?_
 refine xk (cV (ht.ext st.low) ⟨by omega,by omega⟩ hsl) rfl ?_
 rintro _ hp3 ⟨v3,rfl,st3⟩
 replace st:=st.join st3
 simp only [z5,z4]at st
 obtain ⟨A6,n6,c6,rfl,hlen6,_,_,hrd6⟩:=st.row 0 rfl
 rw [z3,zf,M4]at hlen6
 refine FX ?_
 refine BN (BY st 1 rfl (hrd6) (by rw [z3,M4];omega) (Dl _) (by rw [z3,z3,M4];omega) rfl rfl rfl rfl rfl rfl rfl) rfl rfl rfl fun v hp st=> ?_
 simp only [z0,z1]at st
 rw [←List.map_append,←hl,←hlen5,←M2]at st
 refine AJ ?_
 exact ⟨_,rfl,st.sel 2 [1]⟩
theorem cY {tp n c:Nat} {A:Option Addr} {ms:List Av} {h0:AA} (ht:CN h0 tp) (hr:Rd h0 A ((CV ms).map AN)) (hl:(CV ms).length=n) (hnc:n≤c) (hM:FC ms):
  AG Tryz.prog 181 [AM tp,.slice A n c] h0 fun v h'=>∃v1,v=Al [v1,nV 0]∧St h0.size h0 h' [row 92 7 v1 (Bf ms)]:=by
 have hcn:=hM.len
 have hdl:=Fz hM.ok
 have hfl:=JL ms
 have hsl:=Gz (Bw ms)
 have hA:At (CV ms) (n-20) (JM ms.length (Bw ms).length (CM (Bw ms))):=by
  rw [M2,show n-20=(Bw ms).length by omega]
  intro i hi
  rw [zh (by omega),Nat.add_sub_cancel_left]
 refine Ac Tryz.func181 rfl fun _=>Aj ?_
 refine xk (cZ ht hr hl (by omega) hnc (by omega) hA ⟨hcn,by omega⟩ hsl) rfl ?_
 rintro _ hp1 ⟨rfl,hx1⟩
 have st:=(St.start h0).ext hx1
 refine AF ?_
 refine xn st fun p6 hp st=> ?_
 refine xw (us:=FN ms.length (Bw ms).length (CM (Bw ms))) st 0 (O9 _ _ _) fun hp st=> ?_
 simp only [z0]at st
 refine Cp ?_
 refine xa (Bk (n:=20) rfl rfl (by omega) (by simp only [AI];omega)) (AC ?_)
 rw [H1]
 have hcut:=(hr.ext st.low).take (n-20)
 rw [←List.map_take,M2,show n-20=(Bw ms).length by omega,List.take_left' rfl]at hcut
 refine AO ?_
 refine xc st 0 1 ?_
 refine AF ?_
 refine AT (.bool false) (congrArg Value.bool (zu (by omega))) (AJ ?_)
 refine El (Ck [(4,.grow)]) (by kernel_rfl) (by kernel_rfl) (AC ?_)
 refine xc st 0 2 ?_
 refine AB ?_
 refine BW (CT (Gb (ht.ext st.low) hcut (by omega) (by omega)) rfl (by kernel_rfl)) rfl rfl rfl (fun _ _ h=>h.2▸BC.refl _ _) ?_
 rintro _ _ ⟨rfl,rfl⟩
 refine AC ?_
 refine AT (.bool false) (congrArg Value.bool (zu (fun e=>e rfl))) (Aj ?_)
 refine xc st 0 0 ?_
 refine xk (ZW hcut (by omega) (by omega) hM) rfl ?_
 rintro _ hp4 ⟨v1,rfl,st4⟩
 refine AL ?_
 exact ⟨v1,rfl,(st.join st4).sel 2 [0]⟩
theorem ZS (m:Av):En (AY m) (AY m)=true:=by
 simp [AY,En,My]
theorem ZU {n c c2:Nat} {A A2:Option Addr} {l:List Av} {h0:AA} (hr:Rd h0 A (Bf l)) (hr2:Rd h0 A2 (Bf l)) (hl:l.length=n) (hn:n≤1000):AG Tryz.prog 183 [.slice A n c,.slice A2 n c2] h0 fun v h'=>v= .bool true∧h0=h':=by
 refine Ac Tryz.func183 rfl fun _=>By ?_
 refine AT (.bool false) (congrArg Value.bool (zu (fun e=>e rfl))) (Bu ?_)
 refine BD (fun s=>n-s) (fun s=>[(0,.slice A n c),(1,.slice A2 n c2),(12,nV n),(13,nV s)])
  (fun (s:Nat) hp=>s≤n∧h0=hp) 0 (Bt rfl rfl rfl rfl) ⟨Nat.zero_le _,rfl⟩ ?_
 rintro s hp ⟨hs,rfl⟩
 refine AH ?_
 refine AK rfl (fun h=> ?_) (fun h=> ?_)
 ·obtain ⟨bb,o,rfl,hc0⟩:=Rd.flat AY 7 hr (fun _=>rfl) (by omega) (by omega)
  obtain ⟨bb2,o2,rfl,hc2⟩:=Rd.flat AY 7 hr2 (fun _=>rfl) (by omega) (by omega)
  refine By ?_
  refine xa (Bp (i:=s) rfl rfl rfl (by omega)) ?_
  refine xa (Ai (vs:=AY (l[s]'(by omega))) (hc0 s (by omega)) rfl rfl rfl rfl) (AB ?_)
  refine xa (Bp (i:=s) rfl rfl rfl (by omega)) ?_
  refine xa (Ai (vs:=AY (l[s]'(by omega))) (hc2 s (by omega)) rfl rfl rfl rfl) ?_
  refine xa (UX rfl rfl (UJ (ks:=[.str,.i .i64,.i .i64,.i .i64,.i .i64,.i .u32,.i .i64]) (by kernel_rfl) (by kernel_rfl) rfl rfl) (by kernel_rfl)) ?_
  refine AT (.bool false) (congrArg Value.bool (by rw [ZS];rfl)) (AP ?_)
  exact Ad (s+1) (Bt rfl rfl rfl rfl) ⟨by omega,rfl⟩ (by omega)
 ·refine AL ?_
  exact ⟨rfl,rfl⟩
theorem ZV {n c c2:Nat} {A A2:Option Addr} {l:List Av} {h0:AA} (hr:Rd h0 A (Bf l)) (hr2:Rd h0 A2 (Bf l)) (hl:l.length=n) (hn:n≤1000):AG Tryz.prog 139 [.slice A n c,.slice A2 n c2] h0 fun v h'=>v= .bool true∧h0=h':=by
 refine Ac Tryz.func139 rfl fun _=>AP ?_
 refine xk (ZU hr hr2 hl hn) rfl ?_
 rintro _ _ ⟨rfl,rfl⟩
 refine AF ?_
 exact ⟨rfl,rfl⟩
end Go.Bn
end

section
namespace Go.Bn
open Go Proofs
structure AS.ok (e:AS):Prop where
  hn:DU e.name
  hd:e.data.length≤2000
theorem P7 (b:List UInt8) (lv:Int):(EV b lv).1=0∧(EV b lv).2=b∨(EV b lv).1=1∧(EV b lv).2.length<b.length:=by
 unfold EV
 split
 ·rename_i h;exact .inr ⟨rfl,h.2⟩
 ·exact .inl ⟨rfl,rfl⟩
theorem AS.ok.head_ok {e:AS} (h:e.ok):JN e.meth e.name e.data.length e.area.length (CM e.area):=by
 refine ⟨h.hn,by have:=h.hd;omega,Gz _,?_⟩
 rcases P7 e.data e.lv with ⟨h1,h2⟩ | ⟨h1,h2⟩
 ·exact .inl ⟨h1,by unfold AS.area;rw [h2]⟩
 ·exact .inr (.inl ⟨h1,h2⟩)
theorem Vg {tp n c:Nat} {lv:Int} {A:Option Addr} {b name:List UInt8} {h0:AA} (ht:CN h0 tp) (hr:Rd h0 A (b.map AN)) (hl:b.length=n) (hd:n≤2000):
  AG Tryz.prog 56 [AM tp,AU name,.slice A n c,.int .i64 lv] h0 fun v h'=>(¬DU name∧v=Al [.slice none 0 0,nV 6]∧AV h0 h')∨(DU name∧∃v1,v=Al [v1,nV 0]∧St h0.size h0 h' [row 5 1 v1 ((AS.rb ⟨name,b,lv⟩).map AN)]):=by
 refine Gx Tryz.func56 rfl fun _=>Aj ?_
 refine xk (Ja name _) rfl ?_
 rintro _ hp1 ⟨rfl,hx1⟩
 have st:=(St.start h0).ext hx1
 refine AB ?_
 refine AK rfl (fun h=> ?_) (fun h=> ?_)
 ·refine AL ?_
  exact .inl ⟨h,rfl,st.low⟩
 ·have hn:DU name:=Classical.byContradiction fun e=>h e
  have hok:(AS.mk name b lv).ok:=⟨hn,by simp only;omega⟩
  have hhd:=hok.head_ok
  obtain ⟨mt,hmt⟩:∃mt,(AS.mk name b lv).meth=mt:=⟨_,rfl⟩
  obtain ⟨ar,har⟩:∃ar,(AS.mk name b lv).area=ar:=⟨_,rfl⟩
  have hrb:(AS.mk name b lv).rb=F3 mt name n ar.length (CM ar)++ar:=by rw [AS.rb,hmt,har];simp only [hl]
  rw [hmt,har]at hhd
  simp only [hl]at hhd
  have hm2:=hhd.m2
  refine AH ?_
  refine xk (Y7 (hr.ext st.low) hl (by omega)) rfl ?_
  rintro _ hp2 ⟨w,rfl,st2⟩
  rw [show (EV b lv).1=mt from hmt,show (EV b lv).2=ar from har]at*
  replace st:=st.join st2
  simp only [z5,z4]at st
  obtain ⟨A5,n5,c5,rfl,hlen5,_,_,hrd5⟩:=st.row 0 rfl
  rw [z3,zf]at hlen5
  refine iK ?_
  refine xk (Gb (ht.ext st.low) hrd5 hlen5 (by omega)) rfl ?_
  rintro _ _ ⟨rfl,rfl⟩
  refine xa (AZ (ps:=[(0,nV mt),(1,AU name),(2,nV n),(3,nV n5),(4,.int .u32 (CM ar:Nat))]) (cs:=(Dy mt name n n5 (CM ar)).toArray) rfl (by kernel_rfl)) ?_
  refine xk (T4 (ht.ext st.low) (by rw [←hlen5];exact hhd)) rfl ?_
  rintro _ hp4 ⟨v4,rfl,st4⟩
  replace st:=st.join st4
  simp only [z5,z4]at st
  obtain ⟨A6,n6,c6,rfl,hlen6,_,_,_⟩:=st.row 0 rfl
  obtain ⟨A7,n7,c7,e7,hlen7,_,_,hrd7⟩:=st.row 1 rfl
  cases e7
  have hnl:=hn.1
  refine BP ?_
  refine BN (BY st 0 rfl (hrd7) (by rw [z3,hlen5,zf]) (Dl _) (by rw [z3,z3,Ii];omega) rfl rfl rfl rfl rfl rfl rfl) rfl rfl rfl fun v hp st=> ?_
  simp only [z0,z1]at st
  rw [←List.map_append,←hlen5,←hrb]at st
  refine AH ?_
  exact .inr ⟨hn,_,rfl,st.sel 2 [0]⟩
@[reducible] def EX (m:Av) (next:Nat):List Value:=nV 1::(AY m++[nV next])
theorem Ir (m:Av) (n:Nat):∀u∈EX m n,Value.one u=true:=by
 intro u hu
 simp only [EX,AY,z5,z4,List.mem_cons,zl,or_false]at hu
 rcases hu with rfl | rfl | rfl | rfl | rfl | rfl | rfl | rfl | rfl <;> rfl
theorem Vh {tp n c p:Nat} {A:Option Addr} {b:List UInt8} {e:AS} {h0:AA} (ht:CN h0 tp) (hr:Rd h0 A (b.map AN)) (hl:b.length=n) (hm:n≤1099511627776) (hnc:n≤c) (hA:At b p e.rb) (hok:e.ok):
  AG Tryz.prog 108 [AM tp,.slice A n c,nV p] h0 fun v h'=>v=Al [.agg (EX (Cc (p,e)) (p+e.rb.length)).toArray,nV 0]∧AV h0 h':=by
 have st:=St.start h0
 have hrl:=e.rb_len
 have hAh:At b p (F3 e.meth e.name e.data.length e.area.length (CM e.area)):=hA.left
 have hpl:=hA.len (by omega)
 have hhd:=hok.head_ok
 have hm2:=hhd.m2
 have hmth:e.meth<2:=by
  rcases P7 e.data e.lv with ⟨h1,_⟩ | ⟨h1,_⟩ <;> (show (EV e.data e.lv).1<2;omega)
 have hnl:=hok.hn.1
 have hMM:Cc (p,e)=⟨e.name,p,p+(22+e.name.length),e.area.length,e.data.length,CM e.area,e.meth⟩:=rfl
 rw [hMM]
 clear hMM
 obtain ⟨nm,hnm⟩:∃x,e.name=x:=⟨_,rfl⟩
 obtain ⟨al,hal⟩:∃x,e.area.length=x:=⟨_,rfl⟩
 obtain ⟨sz,hsz⟩:∃x,e.data.length=x:=⟨_,rfl⟩
 obtain ⟨sm,hsm⟩:∃x,CM e.area=x:=⟨_,rfl⟩
 obtain ⟨mt,hmt⟩:∃x,e.meth=x:=⟨_,rfl⟩
 obtain ⟨rl,hrl2⟩:∃x,e.rb.length=x:=⟨_,rfl⟩
 rw [hnm,hal,hsz,hsm,hmt]at hAh hhd
 rw [hmt]at hmth
 rw [hal,hnm,hrl2]at hrl
 rw [hal]at hm2
 rw [hrl2]at hpl
 rw [hnm]at hnl
 rw [hnm,hal,hsz,hsm,hmt,hrl2]
 clear hA hok hnm hal hsz hsm hmt hrl2
 refine Bg Tryz.func108 rfl fun _=>AB ?_
 refine xn st fun p6 hp st=>AO ?_
 refine xk (fk (hr.ext st.low) hl hnc (by unfold F3 FO at hAh;exact hAh.left.left.left.left.left.left) hm) rfl ?_
 rintro _ _ ⟨rfl,rfl⟩
 refine AP ?_
 refine xk (ay (ht.ext st.low) (hr.ext st.low) hl hm hnc hAh hhd) rfl ?_
 rintro _ hp2 ⟨rfl,hx2⟩
 replace st:=st.ext hx2
 refine AJ ?_
 refine xn st fun p8 hp st=> ?_
 refine xw (us:=Dy mt nm sz al sm) st 0 (LM _ _ _ _ _) fun hp st=> ?_
 simp only [z0]at st
 refine Bq ?_
 refine xc st 0 1 ?_
 refine AF ?_
 refine xc st 0 3 ?_
 refine AC ?_
 refine xc st 0 2 ?_
 refine AC ?_
 refine xc st 0 4 ?_
 refine AC ?_
 refine xc st 0 0 ?_
 refine xa (AZ (ps:=[(0,AU nm),(1,nV p),(2,nV (p+(22+nm.length))),(3,nV al),(4,nV sz),(5,.int .u32 (sm:Nat)),(6,nV mt)]) (cs:=(AY (⟨nm,p,p+(22+nm.length),al,sz,sm,mt⟩)).toArray) rfl (by kernel_rfl)) ?_
 refine xn st fun p11 hp st=> ?_
 refine xw (us:=AY (⟨nm,p,p+(22+nm.length),al,sz,sm,mt⟩)) st 0 (Cl _) fun hp st=> ?_
 simp only [z0]at st
 refine AL ?_
 refine xc st 1 0 ?_
 refine AC ?_
 refine AT (.bool false) (congrArg Value.bool (zu (by omega))) (AL ?_)
 refine xc st 1 3 ?_
 refine AF ?_
 refine xa (Bk rfl rfl (by omega) (by simp only [AI];omega)) (AC ?_)
 refine AT (.bool false) (congrArg Value.bool (zu (by omega))) (AO ?_)
 refine xa (Ai (vs:=AY (⟨nm,p,p+(22+nm.length),al,sz,sm,mt⟩)) (st.cells 0 rfl) rfl rfl rfl rfl) (AB ?_)
 refine xc st 1 3 ?_
 refine AC ?_
 rw [show p+(22+nm.length)+al=p+rl by omega]
 refine xa (AZ (ps:=[(0,nV 1),(1,.agg (AY (⟨nm,p,p+(22+nm.length),al,sz,sm,mt⟩)).toArray),(2,nV (p+rl))]) (cs:=(EX (⟨nm,p,p+(22+nm.length),al,sz,sm,mt⟩) (p+rl)).toArray) rfl (by kernel_rfl)) ?_
 refine xw (us:=EX (⟨nm,p,p+(22+nm.length),al,sz,sm,mt⟩) (p+rl)) st 2 (Ir _ _) fun hp st=> ?_
 simp only [z0,z1]at st
 refine AB ?_
 refine Af (.cons (Ax (vs:=EX (⟨nm,p,p+(22+nm.length),al,sz,sm,mt⟩) (p+rl)) rfl rfl rfl (st.cells 2 rfl)) (.cons (.tmp rfl) .nil)) ?_
 exact ⟨rfl,st.low⟩
theorem AS.ok.mem_ok {e:AS} {p:Nat} (h:e.ok) (hp:1024≤p∧p≤1073741824):JY (Cc (p,e)):=by
 have hh:=h.head_ok
 have:=hh.m2
 exact ⟨h.hn,hp,rfl,by simp only [Cc];omega,hh.hs,by simp only [Cc];omega,hh.hu⟩
theorem VX {b:List UInt8} {p:Nat} {e:AS} (h:At b p e.rb):At b (p+(22+e.name.length)) e.area:=by
 have:=At.right (c:=F3 e.meth e.name e.data.length e.area.length (CM e.area)) h
 rwa [Ii]at this
theorem AS.ok.back {e:AS} (h:e.ok):Fu (e.meth:Nat) e.area (e.data.length:Nat)=(e.data,0):=(cd e.lv (by have:=h.hd;omega)).1
theorem VZ {tp n c p:Nat} {A:Option Addr} {b:List UInt8} {e:AS} {h0:AA} (ht:CN h0 tp) (hr:Rd h0 A (b.map AN)) (hl:b.length=n) (hm:n≤1048576) (hnc:n≤c) (hA:At b p e.rb) (hok:e.ok) (hp:1024≤p):
  AG Tryz.prog 89 [AM tp,.slice A n c,.agg (AY (Cc (p,e))).toArray] h0 fun v h'=>∃w,v=Al [w,nV 0]∧St h0.size h0 h' [row 5 1 w (e.data.map AN)]:=by
 have st:=St.start h0
 have hrl:=e.rb_len
 have hpl:=hA.len (by omega)
 have hhd:=hok.head_ok
 have hm2:=hhd.m2
 have hAa:=VX hA
 have hnl:=hok.hn.1
 have hmo:=hok.mem_ok (p:=p) ⟨hp,by omega⟩
 have hbk:=hok.back
 have hMM:Cc (p,e)=⟨e.name,p,p+(22+e.name.length),e.area.length,e.data.length,CM e.area,e.meth⟩:=rfl
 rw [hMM]at hmo ⊢
 clear hMM
 obtain ⟨nm,hnm⟩:∃x,e.name=x:=⟨_,rfl⟩
 obtain ⟨ar,har⟩:∃x,e.area=x:=⟨_,rfl⟩
 obtain ⟨dt,hdt⟩:∃x,e.data=x:=⟨_,rfl⟩
 obtain ⟨mt,hmt⟩:∃x,e.meth=x:=⟨_,rfl⟩
 obtain ⟨rl,hrl2⟩:∃x,e.rb.length=x:=⟨_,rfl⟩
 rw [hnm,har,hdt,hmt]at hmo ⊢
 rw [har,hdt,hmt]at hbk
 rw [har,hnm,hrl2]at hrl
 rw [har]at hm2
 rw [hrl2]at hpl
 rw [hnm]at hnl
 rw [hnm,har]at hAa
 clear hA hok hnm har hdt hmt hrl2 hhd
 obtain ⟨sm,hsm⟩:∃x,CM ar=x:=⟨_,rfl⟩
 rw [hsm]at hmo ⊢
 refine Bg Tryz.func89 rfl fun _=>AB ?_
 refine xb (us:=AY (⟨nm,p,p+(22+nm.length),ar.length,dt.length,sm,mt⟩)) st fun p5 hp st=>AO ?_
 refine xa (Ai (vs:=AY (⟨nm,p,p+(22+nm.length),ar.length,dt.length,sm,mt⟩)) (st.cells 0 rfl) rfl rfl rfl rfl) ?_
 refine xk (Oy hmo _) rfl ?_
 rintro _ hp1 ⟨rfl,hx1⟩
 replace st:=st.ext hx1
 refine xa (Bm rfl) (AL ?_)
 refine xc st 0 2 ?_
 refine AF ?_
 refine AT (.bool false) (congrArg Value.bool (zu (by simp only;omega))) (AB ?_)
 refine xc st 0 3 ?_
 refine AF ?_
 refine xc st 0 2 ?_
 refine xa (Bk (n:=p+(22+nm.length)) rfl rfl (by omega) (by simp only [AI];omega)) (AC ?_)
 refine AT (.bool false) (congrArg Value.bool (zu (by simp only;omega))) (BP ?_)
 refine xc st 0 2 ?_
 refine AC ?_
 refine xc st 0 2 ?_
 refine AC ?_
 refine xc st 0 3 ?_
 refine xa (CH (m:=p+(22+nm.length)) (n:=ar.length) rfl rfl (by simp only [AI];omega)) ?_
 refine xa (Jh (l:=p+(22+nm.length)) rfl rfl rfl rfl (by omega) (by omega)) ?_
 rw [Nat.add_sub_cancel_left]
 have hcB:∀h',AV h0 h'→Rd h' (Eb A (p+(22+nm.length)) 1 c) (ar.map AN):=fun h' hx=>by
  have:=(hr.ext hx).cut (p+(22+nm.length)) 1 c ar.length (by intro e;rw [z3];omega)
  rwa [zf,←List.map_drop,←List.map_take,hAa.eq]at this
 refine AJ ?_
 refine GK (Ck [(2,.grow)]) [0,1,3,4,2,5] (by kernel_rfl) (by kernel_rfl) rfl (AF ?_)
 refine xc st 0 5 ?_
 refine BW (CT (Gb (ht.ext st.low) (hcB _ st.low) rfl (by omega)) rfl (by kernel_rfl)) rfl rfl rfl (fun _ _ h=>h.2▸BC.refl _ _) ?_
 rintro _ _ ⟨rfl,rfl⟩
 refine AC ?_
 refine AT (.bool false) (congrArg Value.bool (zu (fun e=>e (by rw [hsm])))) (AL ?_)
 refine xc st 0 6 ?_
 refine AB ?_
 refine xc st 0 4 ?_
 refine xk (SO (hcB _ st.low) rfl (by omega) (by omega)) rfl ?_
 rintro _ hp4 ⟨w,rfl,st4⟩
 rw [hbk]at st4
 refine AL ?_
 refine ⟨w,?_,(st.join st4).sel 2 [0]⟩
 rw [hbk];rfl
theorem dv {m:Av} {n:Nat} (h1:m.at_≤n) (h2:n≤1073741824) (h0:AA):AG Tryz.prog 143 [.agg (EX m n).toArray] h0 fun v h'=>v=nV (n-m.at_)∧AV h0 h':=by
 have st:=St.start h0
 refine BE Tryz.func143 rfl fun _=>AB ?_
 refine xb (us:=EX m n) st fun p1 hp st=>AH ?_
 refine xc st 0 8 ?_
 refine AB ?_
 refine xc st 0 2 ?_
 refine xa (Bk rfl rfl h1 (by simp only [AI];omega)) (AF ?_)
 exact ⟨rfl,st.low⟩
end Go.Bn
end

section
namespace Go.Bn
open Go
section
variable {P:Program} {E:Au} {hp:AA} {cl:Ca} {d:Option Tmp} {ty:TypeId} {pos:String} {af:Array Edge} {g:Option (Nat×Bool)}
variable {x y:Operand} {t t':TypeId}
theorem bw {A:Option Addr} {n c:Nat} (hx:ev E x=some (.slice A n c)) (ht:KL P t=true) {ts:Array TypeId} (hts:ts= #[t]):BB cl P ⟨d,.call ⟨.builtin .cap,#[x],ts⟩,ty,pos,af,g⟩ E hp (.int .i64 (c:Int)):=
 .of_pure fun n a ho w'=>by
  subst hts
  unfold KL at ht
  split at ht
  ·rename_i h;simp [execOp,resolve,ho.eval hx,invoke,builtin,Builtin.cap_,run_underlying h,goInt]
  ·cases ht
theorem Ul {e sz b:Nat} {zs us:List Value} {ua:Array Value} (hx:ev E x=some (.agg ua)) (ht:DA P t=some (e,sz,b,zs)) (hn:Nat.ble (1*sz) 16777216=true) (hs:Nat.blt 0 (1*sz)=true) (hc:Jv 1 sz zs [(0,.agg ua)]=some us.toArray):
  Bd P ⟨d,.buildSlice t 1 #[(0,x)],ty,pos,af,g⟩ E hp (fun u hp'=>∃p,u= .slice (some ⟨p,0,none⟩) 1 1∧EZ (pt p e us) hp hp'):=by
 intro n a w ho hw K hK
 have hps:GQ E (#[(0,x)]:Array (Nat×Operand)).toList=some [(0,.agg ua)]:=by simp [GQ,hx]
 exact Ly hps ht hn hs hc n a w ho hw K fun v' w' hi ⟨h1,h2⟩=>hK v' w' hi ⟨_,h1,by rw [h2];exact Po _⟩
theorem cL {e sz b n c m:Nat} {zs vs:List Value} {ad:Addr} (hr:Rd hp (some ad) vs) (hl:vs.length=n*sz) (hm:0<m) (hc:c<n+m) (hb:(n+m)*b≤140737488355328)
  (hx:ev E x=some (.slice (some ad) n c)) (hy:ev E y=some (.int .i64 (m:Int))) (ht:DA P t=some (e,sz,b,zs)) (hti:KK P t'=true) (hz:Nat.beq zs.length sz=true) (hz0:Nat.blt 0 sz=true) (hb0:Nat.blt 0 b=true) {ts:Array TypeId} (hts:ts= #[t,t']):
  Bd P ⟨d,.call ⟨.builtin .append,#[x,y],ts⟩,ty,pos,af,g⟩ E hp (fun v' hp'=>EZ (row e sz v' (vs++(List.replicate m zs).flatten)) hp hp'):=by
 intro k a w ho hw K hK
 subst hw hts
 obtain ⟨i,z,hu,hi,hzr,hsz,hbz,hzc⟩:=FW ht
 obtain rfl:=Nat.eq_of_beq_eq_true hz
 subst hbz
 obtain ⟨k',hti'⟩:∃k',P.underlying t'=some (.int k'):=by
  unfold KK at hti
  split at hti
  ·exact ⟨_,by assumption⟩
  ·cases hti
 have hb1:0<i.bytes:=by simpa [Nat.blt_eq]using hb0
 have hlen:n+m≤140737488355328:=zw (Nat.le_mul_of_pos_right _ hb1) hb
 have hw:IntKind.i64.wrap (m:Int)=m:=IntWalk.i64_in _ (by omega)
 have hneg:¬ ((m:Int)<0):=by omega
 have hmb:¬ ((m:Int)*(i.bytes:Int)>281474976710656):=by
  have:m*i.bytes≤(n+m)*i.bytes:=Nat.mul_le_mul_right _ (by omega)
  rw [←Int.natCast_mul];omega
 have hroom:¬ (n+m≤c):=by omega
 have hz1:=Pb m zs (by simpa [Nat.blt_eq]using hz0)
 have hzc2:∀q,Builtin.zeroCells z.cells q=((List.replicate q zs).flatten).toArray:=fun q=>by
  unfold Builtin.zeroCells
  rw [hzc]
  exact Pb q zs (by simpa [Nat.blt_eq]using hz0)
 have hfo:=run_firstCells_some (P:=P) w.drew zs.length n ad n c vs hl (Ke (w:=w.drew) hr rfl)
 have hge:=grownCap_ge w (n+m) c e
 have hcm:=grownCap_le_maxLen w (n+m) c e (by simp only [maxLen];omega)
 have h63':¬ (9223372036854775807 < ((n:Int)+(m:Int))):=by omega
 have hfit:Builtin.nextslicecap (n+m) c*i.bytes≤281474976710656:=growslice_fits (by omega) hb
 have h48':¬ (281474976710656<Builtin.nextslicecap (n+m) c*i.bytes):=by omega
 have hrun:(execOp a.eval ⟨d,.call ⟨.builtin .append,#[x,y],#[t,t']⟩,ty,pos,af,g⟩).run P w= .ok (.value (.slice (some ⟨w.heap.size,0,none⟩) (n+m) (grownCap w (n+m) c e))) (w.drew.alloc (.cells (vs++(List.replicate m zs).flatten++(List.replicate (grownCap w (n+m) c e - (n+m)) zs).flatten).toArray e)):=by
  simp [execOp,resolve,ho.eval hx,ho.eval hy,invoke,builtin,Builtin.append_,run_underlying hu,run_underlying hti',sizeOf,typeInfo,hi,hsz,asInt,asIntOf,hw,hneg,hmb,hroom,zeroValue,hzr,hzc2,h63',h48',Question.forced,hfo,newRow,grownCap]
  intro h0
  have hz1:0<zs.length:=by simpa [Nat.blt_eq]using hz0
  have:=Nat.mul_pos hm hz1
  omega
 simp only [Oper.wp,hrun,Oper.upon]
 have hfl:∀q,((List.replicate q zs).flatten).length=q*zs.length:=fun q=>by simp
 refine hK _ _ ⟨rfl,rfl,rfl⟩ ⟨Fg _ _,fun k=>k=w.heap.size,.inr ⟨w.heap.size,n+m,_,_,(0,0),rfl,Jn _ _,hge,hcm,?_,?_,?_,.inl rfl,fun _=>Iff.rfl⟩,fun k hk=>by omega⟩
 ·simp only [List.size_toArray,z2,hfl,hl]
  rw [←Nat.add_mul,←Nat.add_mul]
  congr 1;omega
 ·refine List.take_left' ?_
  rw [z2,hfl,hl,←Nat.add_mul]
 ·rw [z2,hfl,hl,←Nat.add_mul]
theorem St.longer {B:Nat} {h0 hp:AA} {rs:List AE} (st:St B h0 hp rs) (j:Nat) {e sz gb n c k:Nat} {vs:List Value} (hj:rs[j]? =some (Bn.row e sz (.slice (some ⟨gb,0,none⟩) n c) vs)) (hk:n+k≤c):
  ∃ex,ex.length=k*sz∧St B h0 hp (rs.set j (Bn.row e sz (.slice (some ⟨gb,0,none⟩) (n+k) c) (vs++ex))):=by
 obtain ⟨S,hr,_⟩:=st.at_ hj
 rcases hr with ⟨hh,_⟩ | ⟨g',n',cap,cur,fr,hh,h2,h3,h4,h5,h6,h7,h8,hS⟩
 ·cases hh
 ·cases hh
  have hl:(cur.toList.take ((n+k)*sz)).length=(n+k)*sz:=by
   rw [z6,Array.length_toList,h5,Nat.min_eq_left (Nat.mul_le_mul_right _ hk)]
  have e1:vs++(cur.toList.take ((n+k)*sz)).drop (n*sz)=cur.toList.take ((n+k)*sz):=by
   have:=List.take_append_drop (n*sz) (cur.toList.take ((n+k)*sz))
   rw [List.take_take,Nat.min_eq_left (Nat.mul_le_mul_right _ (Nat.le_add_right _ _)),h6]at this
   exact this
  refine ⟨(cur.toList.take ((n+k)*sz)).drop (n*sz),by rw [z7,hl,Nat.add_mul];omega,?_⟩
  rw [e1]
  refine st.upd hj ⟨Nat.le_refl _,fun S' hS'=>⟨S',?_,fun k hk=> .inl hk,fun _ _ _=>rfl⟩⟩
  rcases hS' with ⟨hh,_⟩ | ⟨g2,n2,cap2,cur2,fr2,hh,q2,q3,q4,q5,q6,q7,q8,qS⟩
  ·cases hh
  ·cases hh
   rw [h2]at q2
   cases q2
   exact .inr ⟨gb,n+k,c,cur,fr,rfl,h2,hk,h4,h5,rfl,hl,h8,qS⟩
theorem Nn {e sz b:Nat} {zs:List Value} {B:Nat} {h0:AA} {rs:List AE} (st:St B h0 hp rs) (j:Nat) {gb o n c n' c' m c2:Nat} {A:Option Addr} {vs news:List Value} (hj:rs[j]? =some (row e sz (.slice (some ⟨gb,0,none⟩) n c) vs)) (hn:Rd hp A news) (hl:news.length=min m n'*sz)
  (h1:∀u∈news,Value.one u=true) (hle:o+min m n'*sz≤vs.length) (hx:ev E x=some (.slice (some ⟨gb,o,none⟩) n' c')) (hy:ev E y=some (.slice A m c2)) (ht:DA P t=some (e,sz,b,zs)) {ts:Array TypeId} (hts:ts= #[t,t']):
  Bd P ⟨d,.call ⟨.builtin .copy,#[x,y],ts⟩,ty,pos,af,g⟩ E hp (fun v hp'=>v= .int .i64 ((min m n':Nat):Int)∧St B h0 hp' (rs.set j (row e sz (.slice (some ⟨gb,0,none⟩) n c) (vs.take o++news++vs.drop (o+min m n'*sz))))):=by
 obtain ⟨S,hr,hSB⟩:=st.at_ hj
 intro k a w ho hw K hK
 subst hw hts
 obtain ⟨i,z,hu,hi,hz,hsz,_,hzc⟩:=FW ht
 subst hsz
 rcases hr with ⟨hh,_⟩ | ⟨g',nn,cap,cur,fr,hh,h2,h3,h4,h5,h6,h7,h8,hS⟩
 ·cases hh
 ·cases hh
  have hcur:vs.length≤cur.size:=by rw [h7,h5];exact Nat.mul_le_mul_right _ h3
  obtain ⟨w',hst,hinv,hsz',hoth,hnew⟩:=IQ (P:=P) (p:=gb) (o:=o) (e:=e) (fr:=fr) news 0 cur w h1 h2 (by rw [hl];omega) h8
  have hfc:(Builtin.firstCells i.size (min m n') (.slice A m c2)).run P w= .ok news.toArray w:=by
   cases A with
   | none=>
    have hne:news=[]:=by
     rcases hn with h | ⟨_,_,h,_⟩
     ·exact h
     ·cases h
    subst hne
    simp [Builtin.firstCells]
   | some ad=>exact run_firstCells_some (P:=P) w i.size (min m n') ad m c2 _ hl fun q u hu=>Ke hn rfl q u hu
  have hrun:(execOp a.eval ⟨d,.call ⟨.builtin .copy,#[x,y],#[t,t']⟩,ty,pos,af,g⟩).run P w= .ok (.value (.int .i64 ((min m n':Nat):Int))) w':=by
   have hm:Nat.min m n'=min m n':=rfl
   simp [execOp,resolve,ho.eval hx,ho.eval hy,invoke,builtin,Builtin.copy_,run_underlying hu,sizeOf,typeInfo,hi,Builtin.lenOf,hm,hfc,hst,goInt]
  simp only [Oper.wp,hrun,Oper.upon]
  refine hK _ _ hinv ⟨rfl,st.upd hj ⟨by rw [hsz'];exact Nat.le_refl _,fun S' hS'=> ?_⟩⟩
  have hSg:∀k,S' k↔k=gb:=by
   rcases hS' with ⟨hh,_⟩ | ⟨g',n',cap',cur',fr',hh,_,_,_,_,_,_,_,hS''⟩
   ·cases hh
   ·cases hh;exact hS''
  simp only [Nat.add_zero]at hnew
  have hle2:o+min m n'*i.size≤cur.size:=by omega
  have hvs:vs=cur.toList.take (n*i.size):=h6.symm
  have hsize:(cur.toList.take o++news++cur.toList.drop (o+news.length)).length=cur.size:=by
   simp only [z2,z6,z7,Array.length_toList,hl];omega
  refine ⟨S',.inr ⟨gb,n,c,_,fr,rfl,hnew,h3,h4,by rw [List.size_toArray,hsize,h5],?_,?_,by rw [List.size_toArray,hsize];exact h8,hSg⟩,fun k hk=> .inl hk,fun k _ hk=>hoth k (fun h=>hk ((hSg k).2 h))⟩
  ·rw [hvs,List.take_take,Nat.min_eq_left (by omega),←hl]
   generalize n*i.size=q at*
   refine List.ext_getElem? fun p=> ?_
   simp only [List.getElem?_take,List.getElem?_append,z2,z6,Array.length_toList,List.getElem?_drop]
   rw [Nat.min_eq_left (by omega:o≤cur.size)]
   repeat' split
   all_goals first | rfl | omega | skip
   all_goals rw [List.getElem?_take,if_pos (by omega)]
  ·simp only [z2,z6,z7,hl,h7]
   rw [h7]at hle;omega
end
section
variable {P:Program} {E:Au} {hp:AA} {d:Option Tmp} {ty:TypeId} {pos:String} {af:Array Edge} {g:Option (Nat×Bool)}
variable {x y:Operand} {t tR:TypeId}
theorem St.apart {B:Nat} {h0 hp:AA} {rs:List AE} (st:St B h0 hp rs) {q j p e gb e' sz n c:Nat} {us vs:List Value} (hq:rs[q]? =some (pt p e us)) (hj:rs[j]? =some (Bn.row e' sz (.slice (some ⟨gb,0,none⟩) n c) vs)) (hqj:q≠j):p≠gb:=by
 have hj2:∃i:Nat,(rs.eraseIdx q)[i]? =some (Bn.row e' sz (.slice (some ⟨gb,0,none⟩) n c) vs):=by
  rcases Nat.lt_or_gt_of_ne hqj with h | h
  ·exact ⟨j-1,by rw [List.getElem?_eraseIdx_of_ge (by omega),Nat.sub_add_cancel (by omega)];exact hj⟩
  ·exact ⟨j,by rw [List.getElem?_eraseIdx_of_lt (by omega)];exact hj⟩
 obtain ⟨i,hi⟩:=hj2
 obtain ⟨S,S1,S2,h1,⟨S3,S4,h3,_,_,hS2,_⟩,hd,_,_⟩:=st.own.perm ((IM hq).1.trans ((IM hi).1.cons _))
 rintro rfl
 have k1:S1 p:=(h1.1 p).2 rfl
 rcases h3 with ⟨hh,_⟩ | ⟨g',nn,cap,cur,fr,hh,_,_,_,_,_,_,_,hS⟩
 ·cases hh
 ·cases hh
  exact hd p k1 ((hS2 p).2 (.inl ((hS p).2 rfl)))
theorem cG {f:FuncId} {e sz b gb o p n c:Nat} {zs us vs:List Value} {B:Nat} {h0:AA} {rs:List AE} (st:St B h0 hp rs) (j q:Nat) (hq:rs[q]? =some (pt p e us)) (hj:rs[j]? =some (row e sz (.slice (some ⟨gb,0,none⟩) n c) vs)) (hqj:q≠j) (hpos:0<vs.length)
  (he:MU P f (Extern.SlicesOverlaps.overlaps #[t,t] #[tR])) {ta:Array TypeId} {la ca lb cb:Nat}
  (hx:ev E x=some (.slice (some ⟨p,0,none⟩) la ca)) (hy:ev E y=some (.slice (some ⟨gb,o,none⟩) lb cb)) (ht:DA P t=some (e,sz,b,zs)):
  Bd P ⟨d,.call ⟨.value (.func f),#[x,y],ta⟩,ty,pos,af,g⟩ E hp (fun v hp'=>v= .bool false∧St B h0 hp' rs):=by
 intro k a w ho hw K hK
 subst hw
 obtain ⟨i,z,hu,hi,hz,hsz,_,hzc⟩:=FW ht
 obtain ⟨S,hr,_⟩:=st.at_ hj
 obtain ⟨S2,hr2,_⟩:=st.at_ hq
 have hne:p≠gb:=st.apart hq hj hqj
 rcases hr with ⟨hh,_⟩ | ⟨g',nn,cap,cur,fr,hh,h2,h3,h4,h5,h6,h7,h8,hS⟩
 ·cases hh
 ·cases hh
  have hp:=hr2.2
  have hcs:cur.size≠0:=by
   intro h0
   have:(cur.toList.take (n*sz)).length=0:=by rw [z6,Array.length_toList,h0];simp
   rw [h6]at this;omega
  have hsza:∀w:World,(sizeOf e).run P w= .ok i.size w:=fun w=>by simp [sizeOf,typeInfo,hi]
  have hrun:=Lib.run_overlaps_apart (P:=P) w t tR e hu i.size hsza ⟨p,0,none⟩ ⟨gb,o,none⟩ la ca lb cb hne e e us.toArray.size cur.size (by simp [World.shape?,hp]) (by simp [World.shape?,h2]) hcs (by simp [World.frozen?,hp]) (by simp [World.frozen?,hp])
  have hrun':(execOp a.eval ⟨d,.call ⟨.value (.func f),#[x,y],ta⟩,ty,pos,af,g⟩).run P w= .ok (.value (.bool false)) w:=by
   have key:∀args:Array Operand,args.map a.eval= #[.slice (some ⟨p,0,none⟩) la ca,.slice (some ⟨gb,o,none⟩) lb cb]→(execOp a.eval ⟨d,.call ⟨.value (.func f),args,ta⟩,ty,pos,af,g⟩).run P w= .ok (.value (.bool false)) w:=fun args ha=>by
    simp [execOp,resolve,Act.eval,Deferred.ofValue,invoke,ha,he.run,hrun]
   exact key _ (by rw [List.map_toArray];simp [ho.eval hx,ho.eval hy])
  simp only [Oper.wp,hrun',Oper.upon]
  exact hK _ _ (B8.refl w) ⟨rfl,st⟩
end
section
variable {P:Program} {E:Au} {hp:AA} {d:Option Tmp} {ty:TypeId} {pos:String} {af:Array Edge} {g:Option (Nat×Bool)}
variable {x y:Operand} {t:TypeId}
theorem St.stored {e sz gb n n2 c o:Nat} {vs news:List Value} {B:Nat} {h0:AA} {rs:List AE} {w:World} (st:St B h0 w.heap rs) (j:Nat) (hj:rs[j]? =some (Bn.row e sz (.slice (some ⟨gb,0,none⟩) n c) vs)) (h1:∀u∈news,Value.one u=true) (ho:o+news.length≤c*sz) (h2n:n2≤c):
  ∃w',(storeCells ⟨gb,o,none⟩ news).run P w= .ok () w'∧B8 w w'∧∃vs',St B h0 w'.heap (rs.set j (Bn.row e sz (.slice (some ⟨gb,0,none⟩) n2 c) vs')):=by
 obtain ⟨S,hr,_⟩:=st.at_ hj
 rcases hr with ⟨hh,_⟩ | ⟨g',nn,cap,cur,fr,hh,h2,h3,h4,h5,h6,h7,h8,hS⟩
 ·cases hh
 ·cases hh
  obtain ⟨w',hst,hinv,hsz',hoth,hnew⟩:=IQ (P:=P) (p:=gb) (o:=o) (e:=e) (fr:=fr) news 0 cur w h1 h2 (by omega) h8
  simp only [Nat.add_zero]at hnew
  have hsize:(cur.toList.take o++news++cur.toList.drop (o+news.length)).length=cur.size:=by
   simp only [z2,z6,z7,Array.length_toList];omega
  refine ⟨w',hst,hinv,(cur.toList.take o++news++cur.toList.drop (o+news.length)).take (n2*sz),st.upd hj ⟨by rw [hsz'];exact Nat.le_refl _,fun S' hS'=> ?_⟩⟩
  have hSg:∀k,S' k↔k=gb:=by
   rcases hS' with ⟨hh,_⟩ | ⟨g',n',cap',cur',fr',hh,_,_,_,_,_,_,_,hS''⟩
   ·cases hh
   ·cases hh;exact hS''
  refine ⟨S',.inr ⟨gb,n2,c,_,fr,rfl,hnew,h2n,h4,by rw [List.size_toArray,hsize,h5],rfl,?_,by rw [List.size_toArray,hsize];exact h8,hSg⟩,fun k hk=> .inl hk,fun k _ hk=>hoth k (fun h=>hk ((hSg k).2 h))⟩
  rw [z6,hsize,h5,Nat.min_eq_left (Nat.mul_le_mul_right _ h2n)]
theorem cH {e sz b gb n n0 c m c2:Nat} {zs vs news:List Value} {A:Option Addr} {B:Nat} {h0:AA} {rs:List AE} (st:St B h0 hp rs) (j:Nat) (hj:rs[j]? =some (row e sz (.slice (some ⟨gb,0,none⟩) n0 c) vs)) (hn:Rd hp A news) (hl:news.length=m*sz)
  (h1:∀u∈news,Value.one u=true) (hc:n+m≤c) (hx:ev E x=some (.slice (some ⟨gb,0,none⟩) n c)) (hy:ev E y=some (.slice A m c2)) (ht:DA P t=some (e,sz,b,zs)) {ts:Array TypeId} (hts:ts= #[t,t]):
  Bd P ⟨d,.call ⟨.builtin .append,#[x,y],ts⟩,ty,pos,af,g⟩ E hp (fun v hp'=>v= .slice (some ⟨gb,0,none⟩) (n+m) c∧∃vs',St B h0 hp' (rs.set j (row e sz v vs'))):=by
 intro k a w ho hw K hK
 subst hw hts
 obtain ⟨i,z,hu,hi,hz,hs,hbz,hzc⟩:=FW ht
 subst hs
 obtain ⟨w',hst,hinv,vs',st'⟩:=St.stored (P:=P) (n2:=n+m) (o:=n*i.size) st j hj h1 (by rw [hl,←Nat.add_mul];exact Nat.mul_le_mul_right _ hc) hc
 have hfc:(Builtin.firstCells i.size m (.slice A m c2)).run P w= .ok news.toArray w:=by
  cases A with
  | none=>
   have hne:news=[]:=by
    rcases hn with h | ⟨_,_,h,_⟩
    ·exact h
    ·cases h
   subst hne
   simp [Builtin.firstCells]
  | some ad=>exact run_firstCells_some (P:=P) w i.size m ad m c2 news hl (Ke hn rfl)
 have hrun:(execOp a.eval ⟨d,.call ⟨.builtin .append,#[x,y],#[t,t]⟩,ty,pos,af,g⟩).run P w= .ok (.value (.slice (some ⟨gb,0,none⟩) (n+m) c)) w':=by
  simp [execOp,resolve,ho.eval hx,ho.eval hy,invoke,builtin,Builtin.append_,run_underlying hu,sizeOf,typeInfo,hi,Builtin.lenOf,hc,hfc,E6,hst]
 simp only [Oper.wp,hrun,Oper.upon]
 exact hK _ _ hinv ⟨rfl,vs',st'⟩
theorem cJ {e sz b gb n c o n' c':Nat} {zs vs:List Value} {B:Nat} {h0:AA} {rs:List AE} (st:St B h0 hp rs) (j:Nat) (hj:rs[j]? =some (row e sz (.slice (some ⟨gb,0,none⟩) n c) vs)) (hz1:∀u∈zs,Value.one u=true) (hpos:0<n') (hle:o+n'*sz≤c*sz) (hnc:n≤c)
  (hx:ev E x=some (.slice (some ⟨gb,o,none⟩) n' c')) (ht:DA P t=some (e,sz,b,zs)) (hz:Nat.beq zs.length sz=true) (hz0:Nat.blt 0 sz=true) {ts:Array TypeId} (hts:ts= #[t]):
  Bd P ⟨none,.call ⟨.builtin .clear,#[x],ts⟩,ty,pos,af,g⟩ E hp (fun _ hp'=>∃vs',St B h0 hp' (rs.set j (row e sz (.slice (some ⟨gb,0,none⟩) n c) vs'))):=by
 intro k a w ho hw K hK
 subst hw hts
 obtain ⟨i,zv,hu,hi,hzr,hs,hbz,hzc⟩:=FW ht
 obtain rfl:=Nat.eq_of_beq_eq_true hz
 have hzc2:Builtin.zeroCells zv.cells n'=((List.replicate n' zs).flatten).toArray:=by
  unfold Builtin.zeroCells
  rw [hzc]
  exact Pb n' zs (by simpa [Nat.blt_eq]using hz0)
 obtain ⟨w',hst,hinv,vs',st'⟩:=St.stored (P:=P) (n2:=n) (o:=o) (news:=(List.replicate n' zs).flatten) st j hj (fun u hu=>by
  obtain ⟨l,hl,hu⟩:=List.mem_flatten.1 hu
  rw [List.eq_of_mem_replicate hl]at hu;exact hz1 u hu) (by simpa using hle) hnc
 obtain ⟨n2,rfl⟩:∃n2,n'=n2+1:=⟨n'-1,by omega⟩
 have hrun:(execOp a.eval ⟨none,.call ⟨.builtin .clear,#[x],#[t]⟩,ty,pos,af,g⟩).run P w= .ok (.value (.tuple #[])) w':=by
  simp [execOp,resolve,ho.eval hx,invoke,builtin,Builtin.clear_,run_underlying hu,zeroValue,typeInfo,hi,hzr,hzc2,hst]
 simp only [Oper.wp,hrun,Oper.upon]
 exact hK _ _ hinv ⟨vs',st'⟩
end
end Go.Bn
end

section
namespace Go.Bn
open Go Proofs
theorem Mo:∀ (a b:List UInt8),(Lib.compareBytes a b<0↔B5 a b=true)∧(Lib.compareBytes a b=0↔a=b)
 | [],[]=>by simp [Lib.compareBytes,B5,Go.Op.bytesLess]
 | [],_::_=>by simp [Lib.compareBytes,B5,Go.Op.bytesLess]
 | _::_,[]=>by simp [Lib.compareBytes,B5,Go.Op.bytesLess]
 | x::a,y::b=>by
  obtain ⟨h1,h2⟩:=Mo a b
  rw [Lib.compareBytes,LU]
  split
  ·rename_i h
   have h':=UInt8.lt_iff_toNat_lt.1 h
   refine ⟨⟨fun _=> .inl h',fun _=>by decide⟩,⟨fun e=>absurd e (by decide),fun e=> ?_⟩⟩
   cases e;omega
  ·rename_i h
   have h':¬x.toNat<y.toNat:=fun e=>h (UInt8.lt_iff_toNat_lt.2 e)
   split
   ·rename_i k
    have k':=UInt8.lt_iff_toNat_lt.1 k
    refine ⟨⟨fun e=>absurd e (by decide),fun e=> ?_⟩,⟨fun e=>absurd e (by decide),fun e=> ?_⟩⟩
    ·rcases e with e | ⟨e,_⟩
     ·omega
     ·subst e;omega
    ·cases e;omega
   ·rename_i k
    have k':¬y.toNat<x.toNat:=fun e=>k (UInt8.lt_iff_toNat_lt.2 e)
    have e:x=y:=UInt8.toNat_inj.1 (by omega)
    subst e
    simp [h1,h2]
structure IW (l:List Av) (s:List UInt8) (i:Nat) (b:Bool):Prop where
  le:i≤l.length
  lo:∀ (k:Nat) (m:Av),l[k]? =some m→k<i→B5 m.name s=true
  hi:∀ (k:Nat) (m:Av),l[k]? =some m→i≤k→B5 m.name s=false
  is:b=true↔∃m,l[i]? =some m∧m.name=s
theorem IW.ins {x:Av}:∀ {l:List Av} {i:Nat} {b:Bool},IW l x.name i b→Bx Av.name x l=if b=true then l.set i x else l.take i++x::l.drop i
 | [],i,b,h=>by
  have hb:¬b=true:=fun e=>by obtain ⟨m,h1,_⟩:=h.is.1 e;simp at h1
  rw [if_neg hb];simp [Bx]
 | y::r,0,b,h=>by
  have h0:=h.hi 0 y rfl (Nat.le_refl _)
  rw [Bx]
  by_cases e:x.name=y.name
  ·rw [if_neg (by rw [e,Hh];simp),if_pos e,if_pos (h.is.2 ⟨y,rfl,e.symm⟩)];rfl
  ·rw [if_pos (KQ h0 fun k=>e k.symm),if_neg fun k=>by
    obtain ⟨m,h1,h2⟩:=h.is.1 k
    cases h1;exact e h2.symm];rfl
 | y::r,i+1,b,h=>by
  have h0:=h.lo 0 y rfl (by omega)
  have ih:=IW.ins (x:=x) (l:=r) (i:=i) (b:=b) ⟨by have:=h.le;simp at this;omega,fun k m hm hk=>h.lo (k+1) m (by simpa using hm) (by omega),fun k m hm hk=>h.hi (k+1) m (by simpa using hm) (by omega),by simpa using h.is⟩
  rw [Bx,if_neg (by rw [NP h0];simp),if_neg (fun e=>by rw [e,Hh]at h0;cases h0),ih]
  split <;> simp
theorem Zr (a b:List UInt8) (h0:AA):AG Tryz.prog 199 [AU a,AU b] h0 fun v h'=>v= .int .i64 (Lib.compareBytes a b)∧h0=h':=by
 refine Ac Tryz.func199 rfl fun _=>AP ?_
 refine xa (Pw (LG (f:=232) (e:=Extern.BytealgCompare.compare) rfl (by kernel_rfl) (by kernel_rfl) (by kernel_rfl) (by kernel_rfl)) (vs:=[AU a,AU b]) rfl (fun w=>Lib.run_compareString (str a) (str b) w)) (AF ?_)
 exact ⟨rfl,rfl⟩
theorem S8 (a b:List UInt8) (h0:AA):AG Tryz.prog 150 [AU a,AU b] h0 fun v h'=>v= .int .i64 (Lib.compareBytes a b)∧h0=h':=by
 refine Ac Tryz.func150 rfl fun _=>AP ?_
 refine xk (Zr a b _) rfl ?_
 rintro _ _ ⟨rfl,rfl⟩
 refine AF ?_
 exact ⟨rfl,rfl⟩
theorem gv (m:Av) (s:List UInt8) (h0:AA):AG Tryz.prog 149 [.agg (AY m).toArray,AU s] h0 fun v h'=>v= .int .i64 (Lib.compareBytes m.name s)∧AV h0 h':=by
 have st:=St.start h0
 refine Ac Tryz.func149 rfl fun _=>AB ?_
 refine xb (us:=AY m) st fun p1 hp st=>AH ?_
 refine xc st 0 0 ?_
 refine AC ?_
 refine xk (S8 m.name s _) rfl ?_
 rintro _ _ ⟨rfl,rfl⟩
 refine AF ?_
 exact ⟨rfl,st.low⟩
theorem eY (m:Av) (s:List UInt8) (h0:AA):AG Tryz.prog 187 [.agg (AY m).toArray,AU s] h0 fun v h'=>v= .int .i64 (Lib.compareBytes m.name s)∧AV h0 h':=by
 have st:=St.start h0
 refine Ac Tryz.func187 rfl fun _=>AB ?_
 refine xb (us:=AY m) st fun p1 hp st=>AH ?_
 refine xc st 0 0 ?_
 refine AC ?_
 refine xk (S8 m.name s _) rfl ?_
 rintro _ _ ⟨rfl,rfl⟩
 refine AF ?_
 exact ⟨rfl,st.low⟩
theorem Qm {l:List Av} (h:FK Av.name l) {i j:Nat} {a b:Av} (ha:l[i]? =some a) (hb:l[j]? =some b) (hij:i<j):B5 a.name b.name=true:=by
 obtain ⟨h1,rfl⟩:=zc.1 ha
 obtain ⟨h2,rfl⟩:=zc.1 hb
 exact (List.pairwise_iff_getElem.1 h) i j h1 h2 hij
theorem Ry {n c k:Nat} {A:Option Addr} {l:List Av} {s:List UInt8} {h0:AA} (hr:Rd h0 A (Bf l)) (hl:l.length=n) (hn:n≤1000) (hS:FK Av.name l) (hc:EB Tryz.prog k=true)
  (hf:∀ (m:Av) (h:AA),AG Tryz.prog k [.agg (AY m).toArray,AU s] h fun v h'=>v= .int .i64 (Lib.compareBytes m.name s)∧AV h h'):
  AG Tryz.prog 148 [.slice A n c,AU s,.func (.func k) #[] #[]] h0 fun v h'=>∃ (i:Nat) (b:Bool),v=Al [nV i,.bool b]∧IW l s i b∧AV h0 h':=by
 refine Bg Tryz.func148 rfl fun _=>Fv ?_
 refine BD (fun x=>x.2-x.1) (fun x=>[(0,.slice A n c),(1,AU s),(2,.func (.func k) #[] #[]),(8,nV n),(9,nV x.1),(10,nV x.2)])
  (fun (x:Nat×Nat) hp=>x.1≤x.2∧x.2≤n∧(∀ (q:Nat) (m:Av),l[q]? =some m→q<x.1→B5 m.name s=true)∧(∀ (q:Nat) (m:Av),l[q]? =some m→x.2≤q→B5 m.name s=false)∧AV h0 hp) (0,n) (CL rfl rfl rfl rfl rfl rfl) ⟨Nat.zero_le _,Nat.le_refl _,fun _ _ _ h=>absurd h (Nat.not_lt_zero _),fun q m hm h=>by have:=(zc.1 hm).1;omega,AV.refl _⟩ ?_
 rintro ⟨i,j⟩ hp ⟨hij,hjn,hlo,hhi,hx⟩
 simp only at hij hjn hlo hhi ⊢
 refine AO ?_
 refine AK rfl (fun h=> ?_) (fun h=> ?_)
 ·obtain ⟨bb,o,rfl,hc0⟩:=Rd.flat AY 7 hr (fun _=>rfl) (by omega) (by omega)
  obtain ⟨q,hq⟩:∃q,(i+j)/2^1=q:=⟨_,rfl⟩
  have hq1:i≤q∧q<j:=by omega
  obtain ⟨m,hm⟩:∃m,l[q]? =some m:=⟨_,z9 (by omega)⟩
  have hcs:=fun z u (h:(AY m)[z]? =some u)=>Bz (a:=⟨bb,o+q*7+z,none⟩) hx (hc0 q (by omega) z u (by rw [(zc.1 hm).2];exact h))
  refine AO ?_
  refine xa (Bj rfl rfl (by simp only [AI];omega)) ?_
  refine xa (EK (m:=i+j) 1 rfl rfl (by decide)) ?_
  rw [hq]
  refine xa (Bj rfl rfl (by simp only [AI];omega)) (AO ?_)
  refine xa (Bp (i:=q) rfl rfl rfl (by omega)) ?_
  refine xa (Ai (vs:=AY m) hcs rfl rfl rfl rfl) (AC ?_)
  refine xv (IJ rfl (hf m _) rfl (hc)) ?_
  rintro _ hp2 ⟨rfl,hx2⟩
  refine AB ?_
  refine AK rfl (fun h=> ?_) (fun h=> ?_)
  ·refine AL ?_
   refine Ad (q+1,j) (CL rfl rfl rfl rfl rfl rfl) ⟨by simp only;omega,hjn,fun z m' hm' hz=> ?_,hhi,hx.trans hx2⟩ (by simp only;omega)
   have hlt:=(Mo m.name s).1.1 h
   rcases Nat.lt_or_ge z q with h1 | h1
   ·exact LV (Qm hS hm' hm h1) hlt
   ·obtain rfl:z=q:=by simp only at hz;omega
    rw [hm]at hm';cases hm';exact hlt
  ·refine AH ?_
   refine Ad (i,q) (CL rfl rfl rfl rfl rfl rfl) ⟨by simp only;omega,by simp only;omega,hlo,fun z m' hm' hz=> ?_,hx.trans hx2⟩ (by simp only;omega)
   have hlt:B5 m.name s=false:=by
    cases e:B5 m.name s with
    | false=>rfl
    | true=>exact absurd ((Mo m.name s).1.2 e) h
   rcases Nat.lt_or_ge q z with h1 | h1
   ·cases e:B5 m'.name s with
    | false=>rfl
    | true=>rw [LV (Qm hS hm hm' h1) e]at hlt;cases hlt
   ·obtain rfl:z=q:=by simp only at hz;omega
    rw [hm]at hm';cases hm';exact hlt
 ·obtain rfl:i=j:=by omega
  refine AP ?_
  refine Am 39 rfl (fun h=> ?_) (fun h=> ?_)
  ·obtain ⟨bb,o,rfl,hc0⟩:=Rd.flat AY 7 hr (fun _=>rfl) (by omega) (by omega)
   obtain ⟨m,hm⟩:∃m,l[i]? =some m:=⟨_,z9 (by omega)⟩
   have hcs:=fun z u (h:(AY m)[z]? =some u)=>Bz (a:=⟨bb,o+i*7+z,none⟩) hx (hc0 i (by omega) z u (by rw [(zc.1 hm).2];exact h))
   refine AF ?_
   refine xa (Bp (i:=i) rfl rfl rfl (by omega)) ?_
   refine xa (Ai (vs:=AY m) hcs rfl rfl rfl rfl) (AC ?_)
   refine xv (IJ rfl (hf m _) rfl (hc)) ?_
   rintro _ hp2 ⟨rfl,hx2⟩
   refine AL ?_
   refine ⟨i,_,rfl,⟨by omega,hlo,hhi,?_⟩,hx.trans hx2⟩
   rw [decide_eq_true_iff,(Mo m.name s).2]
   exact ⟨fun e=>⟨m,hm,e⟩,fun ⟨m',hm',e⟩=>by rw [hm]at hm';cases hm';exact e⟩
  ·refine B3 ?_
   refine ⟨i,_,rfl,⟨by omega,hlo,hhi,⟨fun e=>absurd e (by decide),fun ⟨m',hm',_⟩=> ?_⟩⟩,hx⟩
   have:=(zc.1 hm').1
   omega
end Go.Bn
end

/- Packed texts of a claim: what its theorem uses, joined. -/
import Derived.Test.YtcakpngelbhkfaaGreatDoorProg
import Derived.Deep.AppendSrc
import Derived.Test.YtcakpngelbhkfaaGreatDoorPkTopBetween11
set_option maxRecDepth 100000
set_option maxHeartbeats 4000000
set_option linter.unusedVariables false
set_option linter.unusedSimpArgs false
set_option linter.unusedSectionVars false
set_option linter.defProp false
section
namespace Go.Bn
open Go Proofs
theorem eb (s:List UInt8) (c:UInt8) (h0:AA):AG Tryz.prog 274 [AU s,AN c] h0 fun v h'=>v= .int .i64 (Lib.indexByte s c)∧h0=h':=by
 refine Ac Tryz.func274 rfl fun _=>AP ?_
 refine xa (Pw (LG (f:=308) (e:=Extern.BytealgIndexByte.indexByte) rfl (by kernel_rfl) (by kernel_rfl) (by kernel_rfl) (by kernel_rfl)) (vs:=[AU s,AN c]) rfl (fun w=>Lib.run_indexByteString (str s) (c.toNat:Int) w)) (AF ?_)
 refine ⟨?_,rfl⟩
 rw [R0];rfl
theorem ea (s:List UInt8) (c:UInt8) (h0:AA):AG Tryz.prog 249 [AU s,AU [c]] h0 fun v h'=>v= .int .i64 (Lib.indexByte s c)∧h0=h':=by
 refine Ac Tryz.func249 rfl fun _=>Fv ?_
 refine xa (GS rfl rfl) (AF ?_)
 refine AK rfl (fun h=> ?_) (fun h=> ?_)
 ·refine AH ?_
  refine ⟨?_,rfl⟩
  rw [←h]
  simp [Lib.indexByte,Al]
 ·refine Bu ?_
  refine xa (Jf (b:=c) rfl rfl rfl rfl) ?_
  refine xk (eb s c _) rfl ?_
  rintro _ _ ⟨rfl,rfl⟩
  refine AF ?_
  exact ⟨rfl,rfl⟩
theorem Zv (s:List UInt8) (c:UInt8) (h0:AA):AG Tryz.prog 217 [AU s,AU [c]] h0 fun v h'=>v= .int .i64 (Lib.indexByte s c)∧h0=h':=by
 refine Ac Tryz.func217 rfl fun _=>AP ?_
 refine xk (ea s c _) rfl ?_
 rintro _ _ ⟨rfl,rfl⟩
 refine AF ?_
 exact ⟨rfl,rfl⟩
theorem Zs (s:List UInt8) (c:UInt8) (h0:AA):AG Tryz.prog 216 [AU s,AU [c]] h0 fun v h'=>v=nV (s.count c)∧h0=h':=by
 refine Ac Tryz.func216 rfl fun _=>IV ?_
 refine xa (Jf (b:=c) rfl rfl rfl rfl) ?_
 refine xa (Pw (LG (f:=248) (e:=Extern.BytealgCount.count) rfl (by kernel_rfl) (by kernel_rfl) (by kernel_rfl) (by kernel_rfl)) (vs:=[AU s,AN c]) rfl (fun w=>Lib.run_countString (str s) (c.toNat:Int) w)) (AF ?_)
 refine ⟨?_,rfl⟩
 rw [R0];rfl
theorem V8 {l:List (List UInt8)} {x:List UInt8} {i k:Nat} (h:l.length=i):((l++List.replicate (k+1) []).map AU).set i (AU x)=((l++[x])++List.replicate k []).map AU:=by
 subst h
 rw [←List.map_set,List.set_append_right _ _ (Nat.le_refl _),Nat.sub_self,List.replicate_succ,z0,z8];rfl
theorem Z0 {s:List UInt8} (hs:s.length≤64) (h0:AA):AG Tryz.prog 165 [AU s,AU [47],nV 0,.int .i64 (-1)] h0 fun v h'=>St h0.size h0 h' [row 9 1 v ((C9 s).map AU)]:=by
 have st:=St.start h0
 have hcl:s.count 47≤s.length:=List.count_le_length
 have hpl:=MB s
 refine Gx Tryz.func165 rfl fun _=>Bb ?_
 refine xa (GS (b:=[]) rfl rfl) (B3 ?_)
 refine xk (Zs s 47 _) rfl ?_
 rintro _ _ ⟨rfl,rfl⟩
 refine BP ?_
 obtain ⟨n,hn⟩:∃n,(C9 s).length=n:=⟨_,rfl⟩
 refine AT (nV n) (congrArg (Value.int .i64) (by omega)) (AH ?_)
 refine xv (GA (by omega) rfl rfl rfl) ?_
 rintro v hp hnew
 replace st:=st.new hnew
 rw [show List.replicate n (Value.string ⟨#[]⟩)=(([]:List (List UInt8))++List.replicate n []).map AU by rw [z4,List.map_replicate];rfl]at st
 obtain ⟨g,n2,c,rfl,hn2,hnc,_,_⟩:=st.row0 0 rfl (by simp;omega)
 obtain rfl:n2=n:=by simpa using hn2.symm
 refine AH ?_
 refine xa (Bk (n:=1) rfl rfl (by omega) (by simp only [AI];omega)) (AP ?_)
 refine BD (fun s=>n2-s.1) (fun s=>[(0,AU s.2.1),(1,AU [47]),(2,nV 0),(3,nV (n2-1)),(9,.slice (some ⟨g,0,none⟩) n2 c),(10,nV s.1)])
  (fun (x:Nat×List UInt8×List (List UInt8)) hp=>x.2.2.length=x.1∧C9 s=x.2.2++C9 x.2.1∧x.2.1.length≤64∧St h0.size h0 hp [row 9 1 (.slice (some ⟨g,0,none⟩) n2 c) ((x.2.2++List.replicate (n2-x.1) []).map AU)])
  (0,s,[]) (CL rfl rfl rfl rfl rfl rfl) ⟨rfl,rfl,hs,st⟩ ?_
 clear st
 rintro ⟨i,r,dn⟩ hp ⟨hd,hpr,hr,st⟩
 simp only at hd hpr hr st ⊢
 have hlen:=congrArg List.length hpr
 rw [z2,MB r,hd,hn]at hlen
 refine AO ?_
 refine AK rfl (fun h=> ?_) (fun h=> ?_)
 ·obtain ⟨l,r2,rfl,hl0,hidx⟩:=TM 47 (s:=r) (by omega)
  rw [z2,ze]at hr
  refine AL ?_
  refine xk (Zv (l++47::r2) 47 _) rfl ?_
  rintro _ _ ⟨rfl,rfl⟩
  rw [hidx]
  refine AO ?_
  refine AT (.bool false) (congrArg Value.bool (zu (by omega))) (Bu ?_)
  refine xa (Ub rfl rfl rfl (by rw [z2];omega)) ?_
  rw [Nat.add_zero,List.take_left']
  rotate_left
  ·rfl
  refine AC ?_
  refine BT (EL st 0 (o:=0) (i:=i) rfl rfl rfl (by simp;omega) rfl rfl) rfl rfl fun _ hp st=> ?_
  simp only [z0]at st
  rw [show n2-i=(n2 - (i+1))+1 by omega,V8 hd]at st
  refine AP ?_
  refine xa (Pz rfl rfl rfl (by rw [z2,ze];omega)) ?_
  rw [show (l++47::r2).drop (l.length+1)=r2 by simp]
  refine AP ?_
  exact Ad (i+1,r2,dn++[l]) (CL rfl rfl rfl rfl rfl rfl) ⟨by simp only [z2,zm];omega,by rw [hpr,QB hl0];simp,by simp only;omega,st⟩ (by simp only;omega)
 ·obtain rfl:n2=i+1:=by omega
  rw [Ns (s:=r) (by omega)]at hpr
  refine AO ?_
  refine BT (EL st 0 (o:=0) (i:=i) rfl rfl rfl (by simp;omega) rfl rfl) rfl rfl fun _ hp st=> ?_
  simp only [z0]at st
  rw [show i+1-i=0+1 by omega,V8 hd,List.replicate_zero,List.append_nil,←hpr]at st
  refine AO ?_
  rw [H1]
  refine AF ?_
  exact st
theorem fG {s:List UInt8} (hs:s.length≤64) (h0:AA):AG Tryz.prog 110 [AU s,AU [47]] h0 fun v h'=>St h0.size h0 h' [row 9 1 v ((C9 s).map AU)]:=by
 refine Ac Tryz.func110 rfl fun _=>AP ?_
 refine xk (Z0 hs h0) rfl ?_
 rintro _ _ st
 refine AF ?_
 exact st
theorem bT {p:List UInt8} (hp0:p.length≤64) (h0:AA):AG Tryz.prog 112 [AU p] h0 fun v h'=>v= .bool (decide (Jl p))∧AV h0 h':=by
 have st:=St.start h0
 refine BE Tryz.func112 rfl fun _=>AP ?_
 refine xv (cS rfl rfl) ?_
 rintro _ hp ⟨q,rfl,hnew⟩
 replace st:=st.new hnew
 refine AB ?_
 refine BD (fun s=>p.length-s) (fun s=>[(0,AU p),(6,.pointer (some ⟨q,0,none⟩))])
  (fun (i:Nat) hp=>i≤p.length∧(∀c∈p.take i,33≤c.toNat∧c.toNat≤126)∧St h0.size h0 hp [BG q (.stringIter (str p) i)])
  0 (Cu rfl rfl) ⟨Nat.zero_le _,(by simp),st⟩ ?_
 clear st
 rintro i hp ⟨hi,hok,st⟩
 refine AB ?_
 refine xv (cR st 0 rfl rfl) ?_
 refine fun u hp hd=>hd.symm.elim (fun hd=> ?_) (fun hd=> ?_)
 ·obtain ⟨b,c,wd,hb,hlo,hhi,rfl,st⟩:=hd
  simp only [z0]at st
  have hil:=(zc.1 hb).1
  refine Bb ?_
  refine Am 12 rfl (fun h=> ?_) (fun h=> ?_)
  ·refine BP ?_
   have hbad:¬ (33≤b.toNat∧b.toNat≤126):=by
    intro hh
    have:=(hlo (by omega)).1
    omega
   refine ⟨?_,st.low⟩
   rw [zu (fun e=>hbad (e.1 b (List.mem_of_getElem? hb)))];rfl
  ·refine AJ ?_
   refine AK rfl (fun h=> ?_) (fun h=> ?_)
   ·refine AH ?_
    have hbad:¬ (33≤b.toNat∧b.toNat≤126):=by
     intro hh
     have:=(hlo (by omega)).1
     omega
    refine ⟨?_,st.low⟩
    rw [zu (fun e=>hbad (e.1 b (List.mem_of_getElem? hb)))];rfl
   ·refine AB ?_
    have hb2:b.toNat<128:=by
     rcases Nat.lt_or_ge b.toNat 128 with hh | hh
     ·exact hh
     ·have:=hhi hh;omega
    obtain ⟨h1,rfl⟩:=hlo hb2
    refine Ad (i+1) (Cu rfl rfl) ⟨by omega,fun x hx=> ?_,st⟩ (by omega)
    rw [List.take_add_one,hb]at hx
    rcases List.mem_append.1 hx with hx | hx
    ·exact hok x hx
    ·simp only [Option.toList_some,zo]at hx
     subst hx;omega
 ·obtain ⟨hlen,rfl,rfl⟩:=hd
  have hall:∀c∈p,33≤c.toNat∧c.toNat≤126:=by rwa [za hlen]at hok
  refine AP ?_
  refine xa (F9 (b:=[]) rfl rfl) (AC ?_)
  refine Am 18 rfl (fun h=> ?_) (fun h=> ?_)
  ·have h1:=h
   refine AC ?_
   refine xa (F9 (b:=[46]) rfl rfl) (AB ?_)
   refine Am 22 rfl (fun h=> ?_) (fun h=> ?_)
   ·have h2:=h
    refine AC ?_
    refine xa (F9 (b:=[46,46]) rfl rfl) (AJ ?_)
    exact ⟨congrArg Value.bool (decide_eq_decide.2 ⟨fun hh=>⟨hall,h1,h2,hh⟩,fun hh=>hh.2.2.2⟩),st.low⟩
   ·refine AL ?_
    exact ⟨congrArg Value.bool (zu (fun e=>h e.2.2.1)).symm,st.low⟩
  ·refine BP ?_
   exact ⟨congrArg Value.bool (zu (fun e=>h e.2.1)).symm,st.low⟩
theorem bV {p:List UInt8} (hp:p.length≤64) (h0:AA):AG Tryz.prog 111 [AU p] h0 fun v h'=>v= .bool (decide (¬Jl p))∧AV h0 h':=by
 refine BE Tryz.func111 rfl fun _=>AO ?_
 refine xk (bT hp h0) rfl ?_
 rintro _ hp2 ⟨rfl,hx⟩
 refine AJ ?_
 exact ⟨rfl,hx⟩
theorem Z7 {n c k:Nat} {A:Option Addr} {l:List (List UInt8)} {h0:AA} {Q:List UInt8→Prop} [DecidablePred Q] (hr:Rd h0 A (l.map AU)) (hl:l.length=n) (hn:n≤1073741824) (hc:EB Tryz.prog k=true)
  (hf:∀x∈l,∀h:AA,AG Tryz.prog k [AU x] h fun v h'=>v= .bool (decide (Q x))∧AV h h'):
  AG Tryz.prog 164 [.slice A n c,.func (.func k) #[] #[]] h0 fun v h'=>(∃i:Int,v= .int .i64 i∧(0≤i↔∃x∈l,Q x))∧AV h0 h':=by
 refine Ac Tryz.func164 rfl fun _=>By ?_
 refine BD (fun s=>n-s) (fun s=>[(0,.slice A n c),(1,.func (.func k) #[] #[]),(7,nV n),(8,nV s)])
  (fun (s:Nat) hp=>s≤n∧(∀x∈l.take s,¬Q x)∧AV h0 hp) 0 (Bt rfl rfl rfl rfl) ⟨Nat.zero_le _,(by simp),AV.refl _⟩ ?_
 rintro s hp ⟨hs,hno,hx⟩
 refine AH ?_
 refine AK rfl (fun h=> ?_) (fun h=> ?_)
 ·obtain ⟨bb,o,rfl,hc0⟩:=hr.at_ (by rw [z3];omega)
  have hcs:=hc0 s (AU (l[s]'(by omega))) (by rw [zr,z9 (by omega)];rfl)
  refine Bq ?_
  refine xl (Bz (a:=⟨bb,o+s,none⟩) hx hcs) rfl ?_
  refine xv (IJ rfl (hf _ (List.getElem_mem (by omega)) _) rfl (hc)) ?_
  rintro _ hp2 ⟨rfl,hx2⟩
  refine AC ?_
  refine AK rfl (fun h=> ?_) (fun h=> ?_)
  ·refine AL ?_
   exact ⟨⟨_,rfl,⟨fun _=>⟨_,List.getElem_mem (by omega),h⟩,fun _=>by omega⟩⟩,hx.trans hx2⟩
  ·refine AL ?_
   refine Ad (s+1) (Bt rfl rfl rfl rfl) ⟨by omega,fun x hxm=> ?_,hx.trans hx2⟩ (by omega)
   rw [List.take_add_one,z9 (by omega)]at hxm
   rcases List.mem_append.1 hxm with hxm | hxm
   ·exact hno x hxm
   ·simp only [Option.toList_some,zo]at hxm
    subst hxm;exact h
 ·refine AL ?_
  rw [za (by omega)]at hno
  exact ⟨⟨_,rfl,⟨fun hh=>by omega,fun ⟨x,hm,hq⟩=>absurd hq (hno x hm)⟩⟩,hx⟩
theorem Yz {n c k:Nat} {A:Option Addr} {l:List (List UInt8)} {h0:AA} {Q:List UInt8→Prop} [DecidablePred Q] (hr:Rd h0 A (l.map AU)) (hl:l.length=n) (hn:n≤1073741824) (hc:EB Tryz.prog k=true)
  (hf:∀x∈l,∀h:AA,AG Tryz.prog k [AU x] h fun v h'=>v= .bool (decide (Q x))∧AV h h'):
  AG Tryz.prog 109 [.slice A n c,.func (.func k) #[] #[]] h0 fun v h'=>v= .bool (decide (∃x∈l,Q x))∧AV h0 h':=by
 refine Ac Tryz.func109 rfl fun _=>AP ?_
 refine xk (Z7 hr hl hn hc hf) rfl ?_
 rintro _ hp2 ⟨⟨i,rfl,hi⟩,hx⟩
 refine AJ ?_
 exact ⟨congrArg Value.bool (decide_eq_decide.2 hi),hx⟩
theorem Ja (s:List UInt8) (h0:AA):AG Tryz.prog 63 [AU s] h0 fun v h'=>v= .bool (decide (DU s))∧AV h0 h':=by
 refine BE Tryz.func63 rfl fun _=>BP ?_
 refine Am 6 rfl (fun h=> ?_) (fun h=> ?_)
 ·have hs:s.length≤64:=by omega
  refine AC ?_
  refine xk (fG hs h0) rfl ?_
  rintro v1 hp1 st
  have hx1:=st.low
  obtain ⟨A,n,c,rfl,hn,_,_,hrd⟩:=st.row 0 rfl
  have hpl:=MB s
  have hcl:s.count 47≤s.length:=List.count_le_length
  rw [z3,zf]at hn
  refine xk (Yz (Q:=fun p=>¬Jl p) hrd hn (by omega) (by kernel_rfl) (fun x hx h=>bV (by have:=Nt hx;omega) h)) rfl ?_
  rintro _ hp2 ⟨rfl,hx2⟩
  refine AH ?_
  refine ⟨congrArg Value.bool (decide_eq_decide.2 ⟨fun hh=>⟨hs,fun p hp=> ?_⟩,fun hh ⟨x,hx,hq⟩=>hq (hh.2 x hx)⟩),AV.trans hx1 hx2⟩
  exact Classical.byContradiction fun hq=>hh ⟨p,hp,hq⟩
 ·refine AP ?_
  exact ⟨congrArg Value.bool (zu (fun e=>by have:=e.1;omega)).symm,AV.refl _⟩
end Go.Bn
end

section
namespace Go.Bn
open Go Proofs
theorem gx {x y:Nat} (hx:x<256) (hy:y<256):x^^^y<256:=Nat.xor_lt_two_pow (n:=8) hx hy
theorem fw {n:Nat} (hn:n<4294967296) (h0:AA):AG Tryz.prog 43 [.int .u32 (n:Int)] h0 fun v h'=>v= .int .u32 (Gc n:Nat)∧h0=h':=by
 refine BE Tryz.func43 rfl fun _=>AP ?_
 first | refine AD (Je (n:=1) rfl rfl rfl (by simp only [IntKind.bits];omega) (by simp only [IntKind.bits];omega)) rfl rfl ?_ | refine AD (IG rfl rfl) rfl rfl ?_
 rw [Nat.and_one_is_mod]
 refine AB ?_
 refine AK rfl (fun h=> ?_) (fun h=> ?_)
 ·refine AF ?_
  first | refine AD (EK 1 rfl rfl (by decide)) rfl rfl ?_ | refine AD (Ez 1 rfl rfl (by decide)) rfl rfl ?_
  first | refine AD (Nk (n:=3988292384) rfl rfl rfl (by simp only [IntKind.bits];omega) (by simp only [IntKind.bits];omega)) rfl rfl ?_ | refine AD (Nj rfl rfl) rfl rfl ?_
  refine AF ?_
  refine ⟨?_,rfl⟩
  unfold Gc
  rw [if_pos (by omega),Nat.pow_one];rfl
 ·refine AJ ?_
  first | refine AD (EK 1 rfl rfl (by decide)) rfl rfl ?_ | refine AD (Ez 1 rfl rfl (by decide)) rfl rfl ?_
  refine AF ?_
  refine ⟨?_,rfl⟩
  unfold Gc
  rw [if_neg (by omega),Nat.pow_one];rfl
def GE (i:Nat):List Value:=(List.range 256).map fun j=>if j<i then Value.int .u32 (C3 8 j:Nat)else .int .u32 0
def Eh:List Value:=GE 256
theorem fb:GE 0=List.replicate 256 (.int .u32 0):=by
 apply List.ext_getElem
 ·simp only [GE,z3,List.length_range,zg]
 ·intro i h1 h2
  simp only [GE,List.getElem_map,List.getElem_range,List.getElem_replicate,Nat.not_lt_zero,if_false]
theorem Kj (i:Nat):(GE i).length=256:=by simp [GE]
theorem fa (i:Nat) (h:i<256):(GE i).set i (.int .u32 (C3 8 i:Nat))=GE (i+1):=by
 apply List.ext_getElem
 ·simp [GE]
 ·intro j h1 h2
  simp only [GE,List.getElem_set,List.getElem_map,List.getElem_range]
  by_cases e:i=j
  ·subst e;simp
  ·rw [if_neg e]
   by_cases h3:j<i
   ·rw [if_pos h3,if_pos (by omega)]
   ·rw [if_neg h3,if_neg (by omega)]
theorem We (i:Nat) (h:i<256):Eh[i]? =some (.int .u32 (C3 8 i:Nat)):=by simp [Eh,GE,h]
theorem FG:Eh.length=256:=Kj _
theorem Qu:∀u∈Eh,Value.one u=true:=by
 intro u hu
 simp only [Eh,GE,List.mem_map]at hu
 obtain ⟨j,_,rfl⟩:=hu
 split <;> rfl
theorem Pd (h0:AA):AG Tryz.prog 24 [] h0 fun v h'=>v= .agg Eh.toArray∧AV h0 h':=by
 refine Vu Tryz.func24 rfl fun _=> ?_
 have st:=St.start h0
 refine AB ?_
 refine xv (CK (zs:=List.replicate 256 (.int .u32 0)) (by kernel_rfl)) ?_
 rintro _ hp ⟨p0,rfl,hnew⟩
 replace st:=st.new hnew
 refine AF ?_
 refine xv (CK (zs:=List.replicate 256 (.int .u32 0)) (by kernel_rfl)) ?_
 rintro _ hp ⟨p1,rfl,hnew⟩
 replace st:=st.new hnew
 clear hnew
 refine AO ?_
 rw [←fb]at st
 refine BD (fun s=>256-s) (fun s=>[(0,.pointer (some ⟨p0,0,none⟩)),(1,.pointer (some ⟨p1,0,none⟩)),(4,.int .i64 (s:Int))])
  (fun (s:Nat) hp=>St h0.size h0 hp [pt p1 70 (GE s),pt p0 70 (GE 0)]∧s≤256)
  0 (DJ rfl rfl rfl) ⟨st,by omega⟩ ?_
 clear st
 rintro i hp ⟨st,hi⟩
 refine AH ?_
 refine AK rfl (fun h=> ?_) (fun h=> ?_)
 ·refine Hp ?_
  refine BD (fun s=>8-s) (fun s=>[(0,.pointer (some ⟨p0,0,none⟩)),(1,.pointer (some ⟨p1,0,none⟩)),(2,.int .i64 (i:Int)),(4,.int .i64 (i:Int)),(3,.int .u32 (C3 s i:Nat)),(9,.int .i64 (s:Int))])
   (fun (s:Nat) hp'=>hp=hp'∧s≤8)
   0 (CL rfl rfl rfl rfl rfl rfl) ⟨rfl,by omega⟩ ?_
  rintro j hp1 ⟨rfl,hj⟩
  refine AH ?_
  refine AK rfl (fun h=> ?_) (fun h=> ?_)
  ·refine AH ?_
   refine xk (fw (n:=C3 j i) (OG j (by omega)) _) rfl ?_
   rintro _ _ ⟨rfl,rfl⟩
   rw [←Wp]
   refine AO ?_
   exact Ad (j+1) (CL rfl rfl rfl rfl rfl rfl) ⟨rfl,by omega⟩ (by omega)
  ·obtain rfl:j=8:=by omega
   refine AJ ?_
   first | refine AD (F6 rfl rfl rfl (by omega)) rfl rfl ?_ | refine AD (Fk rfl rfl rfl (by omega)) rfl rfl ?_ | refine AD (FQ rfl rfl rfl (by omega)) rfl rfl ?_
   refine BT (cT st 0 rfl rfl rfl (by rw [Kj];omega) rfl rfl) rfl rfl fun _ hp st=> ?_
   simp only [z0,Nat.zero_add,zf]at st
   rw [fa i (by omega)]at st
   refine AL ?_
   exact Ad (i+1) (DJ rfl rfl rfl) ⟨st,by omega⟩ (by omega)
 ·refine AF ?_
  obtain rfl:i=256:=by omega
  refine xa (Ai (st.cells 0 rfl) rfl rfl (Kj _) rfl) ?_
  refine BT (D3 st 1 rfl rfl rfl rfl (by rw [Kj];rfl) Qu (by rw [Kj,Kj])) rfl rfl fun _ hp st=> ?_
  simp only [z0,z1]at st
  refine AC ?_
  refine Af (.cons (Ax rfl rfl FG (st.cells 1 rfl)) .nil) ?_
  exact ⟨rfl,st.low⟩
def CN (hp:AA) (p:Nat):Prop:=∀i,i<256→Az hp ⟨p,i,none⟩=some (.int .u32 (C3 8 i:Nat))
theorem St.tab {B:Nat} {h0 hp:AA} {rs:List AE} (s:St B h0 hp rs) (j:Nat) {p:Nat} (hj:rs[j]? =some (pt p 70 Eh)):CN hp p:=fun i hi=>s.cell j hj (We i hi)
theorem CN.ext {hp hp':AA} {p:Nat} (h:CN hp p) (hx:AV hp hp'):CN hp' p:=fun i hi=>Bz hx (h i hi)
theorem Zz {p n m c:Nat} {A:Option Addr} {l:List UInt8} {h0:AA} (ht:CN h0 p) (hn:n<4294967296) (hr:Rd h0 A (l.map AN)) (hl:l.length=m) (hm:m≤140737488355328):
  AG Tryz.prog 68 [.pointer (some ⟨p,0,none⟩),.int .u32 (n:Int),.slice A m c] h0 fun v h'=>v= .int .u32 (Gp n l:Nat)∧h0=h':=by
 refine Bg Tryz.func68 rfl fun _=>Hp ?_
 refine BD (fun s=>m-s) (fun s=>[(0,.pointer (some ⟨p,0,none⟩)),(1,.int .u32 (Gp n (l.take s):Nat)),(11,.slice A m c),(12,.int .i64 (m:Int)),(13,.int .i64 (s:Int))])
  (fun (s:Nat) hp=>h0=hp∧s≤m)
  0 (CP rfl rfl rfl rfl rfl) ⟨rfl,by omega⟩ ?_
 rintro i hp ⟨rfl,hi⟩
 refine AH ?_
 refine AK rfl (fun h=> ?_) (fun h=> ?_)
 ·have hlt:i<l.length:=by omega
  obtain ⟨b,o,rfl,hc⟩:∃b o,A=some ⟨b,o,none⟩∧∀i u,(l.map AN)[i]? =some u→Az h0 ⟨b,o+i,none⟩=some u:=by
   rcases hr with h | h
   ·exfalso
    have:l=[]:=by simpa using h
    subst this;simp at hlt
   ·exact h
  have hcell:=hc i (AN l[i]) (by simp [hlt])
  have hstep:l.take (i+1)=l.take i++[l[i]]:=by rw [List.take_succ_eq_append_getElem hlt]
  have hg:=PG (l.take i) hn
  have hgo:Gp n (l.take (i+1))=C3 8 (Gp n (l.take i)^^^l[i].toNat):=by rw [hstep,Zx]
  have hb:=(l[i]).toNat_lt
  rw [fy _ _ hb]at hgo
  generalize Gp n (l.take i)=q at hg hgo
  have hix:q%256^^^l[i].toNat<256:=gx (by omega) hb
  have htb:=ht _ hix
  have htl:C3 8 (q%256^^^l[i].toNat)<4294967296:=OG 8 (by omega)
  generalize hq:q%256^^^l[i].toNat=ix at hix htb htl hgo
  refine AL ?_
  refine xl (hcell) rfl (AH ?_)
  refine xa (IH rfl rfl rfl) (AC ?_)
  first | refine AD (Nk rfl rfl rfl (by simp only [IntKind.bits];omega) (by simp only [IntKind.bits];omega)) rfl rfl ?_ | refine AD (Nj rfl rfl) rfl rfl ?_
  refine AT (.int .u8 (ix:Int)) (by rw [←hq];rfl) (AC ?_)
  first | refine AD (F6 rfl rfl rfl (by omega)) rfl rfl ?_ | refine AD (Fk rfl rfl rfl (by omega)) rfl rfl ?_ | refine AD (FQ rfl rfl rfl (by omega)) rfl rfl ?_
  refine xa (Na (ad:=⟨p,ix,none⟩) htb (by simp only [ev,Au.get_cons];simp) rfl rfl) (AC ?_)
  first | refine AD (EK 8 rfl rfl (by decide)) rfl rfl ?_ | refine AD (Ez 8 rfl rfl (by decide)) rfl rfl ?_
  first | refine AD (Nk rfl rfl rfl (by simp only [IntKind.bits];omega) (by simp only [IntKind.bits];omega)) rfl rfl ?_ | refine AD (Nj rfl rfl) rfl rfl ?_
  refine AO ?_
  refine Ad (i+1) (.cons rfl (.cons (by rw [hgo];rfl) (DJ rfl rfl rfl))) ⟨rfl,by omega⟩ (by omega)
 ·refine AO ?_
  refine ⟨?_,rfl⟩
  rw [za (by omega)];rfl
theorem Gb {p m c:Nat} {A:Option Addr} {l:List UInt8} {h0:AA} (ht:CN h0 p) (hr:Rd h0 A (l.map AN)) (hl:l.length=m) (hm:m≤140737488355328):
  AG Tryz.prog 100 [.pointer (some ⟨p,0,none⟩),.slice A m c] h0 fun v h'=>v= .int .u32 (CM l:Nat)∧h0=h':=by
 have hg:=PG l (n:=4294967295) (by omega)
 refine Ac Tryz.func100 rfl fun _=>Bb ?_
 refine xk (Zz (n:=4294967295) ht (by omega) hr hl hm) rfl ?_
 rintro _ _ ⟨rfl,rfl⟩
 refine xa (Nk (n:=4294967295) rfl rfl rfl (by simp only [IntKind.bits];omega) (by simp only [IntKind.bits];omega)) (AF ?_)
 exact ⟨rfl,rfl⟩
end Go.Bn
end

section
namespace Go.Bn
open Go Proofs
theorem OB (seq en dir:Int) (cl:Bool) (h0:AA):AG Tryz.prog 176 [.agg #[.int .i64 seq,.int .i64 en,.int .i64 dir,.bool cl]] h0 fun v h'=>v= .bool (decide (AQ.mk seq en dir cl).right)∧AV h0 h':=by
 refine BE Tryz.func176 rfl fun _=> ?_
 have st:=St.start h0
 simp only [AQ.right]
 refine AB ?_
 refine xv (Bv rfl rfl) ?_
 rintro _ hp ⟨p,rfl,hnew⟩
 have st:=st.new hnew
 refine AL ?_
 refine xe ?_
 refine AB ?_
 refine Am 6 rfl (fun h=> ?_) (fun h=> ?_)
 ·refine HQ ?_
  exact ⟨congrArg Value.bool (zu (by rintro ⟨h1,h2,h3,h4,_⟩;omega)).symm,st.low⟩
 ·refine AC ?_
  refine xe ?_
  refine AF ?_
  refine Am 11 rfl (fun h=> ?_) (fun h=> ?_)
  ·refine Bb ?_
   exact ⟨congrArg Value.bool (zu (by rintro ⟨h1,h2,h3,h4,_⟩;omega)).symm,st.low⟩
  ·refine AC ?_
   refine xe ?_
   refine AF ?_
   refine Am 16 rfl (fun h=> ?_) (fun h=> ?_)
   ·refine Bu ?_
    exact ⟨congrArg Value.bool (zu (by rintro ⟨h1,h2,h3,h4,_⟩;omega)).symm,st.low⟩
   ·refine AC ?_
    refine xe ?_
    refine AF ?_
    refine AK rfl (fun h=> ?_) (fun h=> ?_)
    ·refine AH ?_
     exact ⟨congrArg Value.bool (zu (by rintro ⟨h1,h2,h3,h4,_⟩;omega)).symm,st.low⟩
    ·refine AH ?_
     refine xe ?_
     by_cases hcl:cl=true
     ·subst hcl
      refine xa (Bm rfl) (AL ?_)
      refine xe ?_
      refine AB ?_
      refine Am 30 rfl (fun h=> ?_) (fun h=> ?_)
      ·refine AC ?_
       refine xe ?_
       refine AF ?_
       refine Am 35 rfl (fun h=> ?_) (fun h=> ?_)
       ·refine AC ?_
        refine xe ?_
        refine AC ?_
        refine xe ?_
        refine xa (EU rfl rfl (by simp only [AI];omega)) (AH ?_)
        refine ⟨congrArg Value.bool (decide_eq_decide.2 ⟨fun hh=>⟨by omega,by omega,by omega,by omega,by simp;omega⟩,fun hh=>by have h5:=hh.2.2.2.2;simp at h5;omega⟩),st.low⟩
       ·refine BP ?_
        exact ⟨congrArg Value.bool (zu (by rintro ⟨_,_,_,_,h5⟩;simp at h5;omega)).symm,st.low⟩
      ·refine Cp ?_
       exact ⟨congrArg Value.bool (zu (by rintro ⟨_,_,_,_,h5⟩;simp at h5;omega)).symm,st.low⟩
     ·obtain rfl:cl=false:=by simpa using hcl
      refine xa (Bm rfl) (AH ?_)
      refine xe ?_
      refine AJ ?_
      refine ⟨congrArg Value.bool (decide_eq_decide.2 ⟨fun hh=>⟨by omega,by omega,by omega,by omega,by simpa using hh⟩,fun hh=>by simpa using hh.2.2.2.2⟩),st.low⟩
theorem YM (a:Int) (ha:AI .i64 a):Hz .and .i64 a 1=a%2:=by
 simp only [AI]at ha
 have key:(BitVec.ofInt 64 a&&& BitVec.ofInt 64 1).toNat=(a%2).toNat:=by
  rw [BitVec.toNat_and,BitVec.toNat_ofInt,BitVec.toNat_ofInt,show ((1:Int) % ((2^64:Nat):Int)).toNat=1 by decide,Nat.and_one_is_mod,show ((2^64:Nat):Int)=18446744073709551616 from rfl]
  omega
 show IntKind.i64.wrap ((BitVec.ofInt 64 a&&& BitVec.ofInt 64 1).toNat:Int)=a%2
 rw [key]
 rcases (by omega:a%2=0∨a%2=1)with h | h <;> rw [h] <;> rfl
theorem e6 {a:Int} (ha:AI .i64 a) (h0:AA):AG Tryz.prog 168 [.int .i64 a] h0 fun v h'=>v= .int .i64 (if a%2=1 then 512 else 0)∧h0=h':=by
 refine BE Tryz.func168 rfl fun _=>AP ?_
 refine xa (IG rfl rfl) ?_
 rw [YM a ha]
 refine AB ?_
 refine AK rfl (fun h=> ?_) (fun h=> ?_)
 ·refine AH ?_
  rw [if_pos h];exact ⟨rfl,rfl⟩
 ·refine AL ?_
  rw [if_neg h];exact ⟨rfl,rfl⟩
theorem fH {tp a b c:Nat} {cl:Bool} {h0:AA} (ht:CN h0 tp) (hs:(AQ.mk a b c cl).right):AG Tryz.prog 130 [.pointer (some ⟨tp,0,none⟩),.agg #[.int .i64 (a:Int),.int .i64 (b:Int),.int .i64 (c:Int),.bool cl]] h0 fun v h'=>
  ∃v1,v=Al [v1,.int .i64 0]∧St h0.size h0 h' [row 5 1 v1 ((AQ.mk a b c cl).bytes.map AN)]:=by
 have hs':=hs
 simp only [AQ.right]at hs'
 have ha:a<4294967296:=by omega
 have hb:b<4294967296:=by omega
 have hc:c<4294967296:=by obtain ⟨_,_,_,_,h5⟩:=hs';split at h5 <;> omega
 refine Ac Tryz.func130 rfl fun _=> ?_
 have st:=St.start h0
 refine AB ?_
 refine xv (Bv rfl rfl) ?_
 rintro _ hp ⟨p,rfl,hnew⟩
 have st:=st.new hnew
 refine AL ?_
 refine xa (Ai (st.cells 0 rfl) rfl rfl rfl rfl) ?_
 refine xk (OB _ _ _ _ _) rfl ?_
 rintro _ hp ⟨rfl,hx⟩
 replace st:=st.ext hx
 rw [decide_eq_true hs]
 refine xa (Bm rfl) (AH ?_)
 refine xv (Jk (([83,76,79,84]:List UInt8).map AN) rfl rfl rfl rfl (by kernel_rfl) rfl) ?_
 rintro v hp hnew
 replace st:=st.new hnew
 obtain ⟨A,n,k,rfl,hlen,_,_,hrd⟩:=st.row 0 rfl
 obtain ⟨gb,o,rfl,_⟩:=hrd.at_ (by decide)
 refine xv (Lz st 0 rfl rfl rfl) ?_
 rintro _ hp ⟨rfl,st⟩
 refine AL ?_
 refine xe ?_
 refine AC ?_
 refine xe ?_
 refine AC ?_
 refine xe ?_
 refine xa (AZ (ps:=[(0,.int .i64 (a:Int)),(1,.int .i64 (b:Int)),(2,.int .i64 (c:Int))]) (cs:= #[.int .i64 (a:Int),.int .i64 (b:Int),.int .i64 (c:Int)]) rfl rfl) (AF ?_)
 refine BD (fun s=>3-s.1) (fun s=>[(0,.pointer (some ⟨tp,0,none⟩)),(3,.pointer (some ⟨p,0,none⟩)),(6,s.2),(20,.agg #[.int .i64 (a:Int),.int .i64 (b:Int),.int .i64 (c:Int)]),(21,.int .i64 (s.1:Int))])
  (fun (s:Nat×Value) hp=>St h0.size h0 hp [row 5 1 s.2 ((([83,76,79,84]:List UInt8)++(([a,b,c]:List Nat).take s.1).flatMap (Ay 4)).map AN),pt p 80 [.int .i64 (a:Int),.int .i64 (b:Int),.int .i64 (c:Int),.bool cl]]∧s.1≤3)
  (0,_) (CP rfl rfl rfl rfl rfl) ⟨st,by simp⟩ ?_
 clear st hrd hlen hnew hx
 rintro ⟨i,v⟩ hp ⟨st,hi⟩
 simp only at st hi ⊢
 refine AH ?_
 refine AK rfl (fun h=> ?_) (fun h=> ?_)
 ·have h3:i=0∨i=1∨i=2:=by omega
  obtain ⟨q,hq,hql,hix,htk⟩:∃q:Nat,q<4294967296∧(([83,76,79,84]:List UInt8)++(([a,b,c]:List Nat).take i).flatMap (Ay 4)).length≤100∧(#[.int .i64 (a:Int),.int .i64 (b:Int),.int .i64 (c:Int)]:Array Value)[i]? =some (.int .i64 (q:Int))∧(([a,b,c]:List Nat).take (i+1)).flatMap (Ay 4)=(([a,b,c]:List Nat).take i).flatMap (Ay 4)++Ay 4 q:=by
   rcases h3 with rfl | rfl | rfl
   ·exact ⟨a,ha,by simp,rfl,by simp⟩
   ·exact ⟨b,hb,by simp [Cs],rfl,by simp⟩
   ·exact ⟨c,hc,by simp [Cs],rfl,by simp⟩
  refine AH ?_
  refine xa (Lj rfl rfl rfl (by omega) hix) (AL ?_)
  refine xk (H8 (n:=q) st.here hq (by omega)) rfl ?_
  rintro v hp st2
  replace st:=st.trans st2
  rw [show B2 4=4 by rfl,z8,←htk]at st
  refine AO ?_
  exact Ad (i+1,v) (CP rfl rfl rfl rfl rfl) ⟨st,by simp only;omega⟩ (by simp only;omega)
 ·obtain rfl:i=3:=by omega
  have e12:(([a,b,c]:List Nat).take 3).flatMap (Ay 4)=Ay 4 a++Ay 4 b++Ay 4 c:=by simp
  rw [e12,←z8,←z8]at st
  refine AH ?_
  refine xe ?_
  by_cases hcl:cl=true
  ·subst hcl
   refine AJ ?_
   refine xv (Ep rfl rfl rfl) ?_
   rintro _ hp ⟨A,rfl,hx,hrd⟩
   have st:=st.ext hx
   refine BN (BY st 0 rfl (hrd) (rfl) (by simp [Value.one,AN]) (by simp [Cs]) rfl rfl rfl rfl rfl rfl rfl) rfl rfl rfl fun v hp st=> ?_
   simp only [z0,z1]at st
   have e17:(([83,76,79,84]:List UInt8)++Ay 4 a++Ay 4 b++Ay 4 c).map AN++[.int .u8 1]=(AQ.mk a b c true).head.map AN:=by simp [AQ.head,AN]
   rw [e17]at st
   generalize hgen:AQ.mk (a:Int) b c true=s at*
   refine AF ?_
   have hh:=s.head_length
   have hsl:=Gz s.head
   obtain ⟨A5,n5,c5,rfl,hlen5,_,_,hrd5⟩:=st.row 0 rfl
   refine AJ ?_
   refine xk (Gb (ht.ext st.low) hrd5 (by simpa using hlen5) (by simp at hlen5;omega)) rfl ?_
   rintro _ _ ⟨rfl,rfl⟩
   refine xk (H8 (n:=CM s.head) st.here hsl (by omega)) rfl ?_
   rintro v hp st2
   replace st:=st.trans st2
   rw [show B2 4=4 by rfl]at st
   obtain ⟨A6,n6,c6,rfl,hlen6,_,_,_⟩:=st.row 0 rfl
   obtain rfl:n6=21:=by simp [Cs,hh]at hlen6;omega
   refine AO ?_
   refine xa (Bk (m:=512) (n:=21) rfl rfl (by omega) (by simp only [AI];omega)) ?_
   refine BN (Uc (m:=491) st 0 rfl (by simp [hh];omega) (by omega) rfl (by simp [Cs,hh]) rfl rfl rfl rfl rfl rfl) rfl rfl rfl fun v hp st=> ?_
   simp only [z0,z1]at st
   refine AJ ?_
   refine ⟨_,rfl,?_⟩
   have e:(s.head++Ay 4 (CM s.head)).map AN++List.replicate 491 (.int .u8 0)=s.bytes.map AN:=by
    simp only [AQ.bytes,List.map_append,List.map_replicate];rfl
   rw [e]at st
   exact st.only
  ·obtain rfl:cl=false:=by simpa using hcl
   refine AJ ?_
   refine xv (Ep rfl rfl rfl) ?_
   rintro _ hp ⟨A,rfl,hx,hrd⟩
   have st:=st.ext hx
   refine BN (BY st 0 rfl (hrd) (rfl) (by simp [Value.one,AN]) (by simp [Cs]) rfl rfl rfl rfl rfl rfl rfl) rfl rfl rfl fun v hp st=> ?_
   simp only [z0,z1]at st
   have e17:(([83,76,79,84]:List UInt8)++Ay 4 a++Ay 4 b++Ay 4 c).map AN++[.int .u8 0]=(AQ.mk a b c false).head.map AN:=by simp [AQ.head,AN]
   rw [e17]at st
   generalize hgen:AQ.mk (a:Int) b c false=s at*
   refine AF ?_
   have hh:=s.head_length
   have hsl:=Gz s.head
   obtain ⟨A5,n5,c5,rfl,hlen5,_,_,hrd5⟩:=st.row 0 rfl
   refine AJ ?_
   refine xk (Gb (ht.ext st.low) hrd5 (by simpa using hlen5) (by simp at hlen5;omega)) rfl ?_
   rintro _ _ ⟨rfl,rfl⟩
   refine xk (H8 (n:=CM s.head) st.here hsl (by omega)) rfl ?_
   rintro v hp st2
   replace st:=st.trans st2
   rw [show B2 4=4 by rfl]at st
   obtain ⟨A6,n6,c6,rfl,hlen6,_,_,_⟩:=st.row 0 rfl
   obtain rfl:n6=21:=by simp [Cs,hh]at hlen6;omega
   refine AO ?_
   refine xa (Bk (m:=512) (n:=21) rfl rfl (by omega) (by simp only [AI];omega)) ?_
   refine BN (Uc (m:=491) st 0 rfl (by simp [hh];omega) (by omega) rfl (by simp [Cs,hh]) rfl rfl rfl rfl rfl rfl) rfl rfl rfl fun v hp st=> ?_
   simp only [z0,z1]at st
   refine AJ ?_
   refine ⟨_,rfl,?_⟩
   have e:(s.head++Ay 4 (CM s.head)).map AN++List.replicate 491 (.int .u8 0)=s.bytes.map AN:=by
    simp only [AQ.bytes,List.map_append,List.map_replicate];rfl
   rw [e]at st
   exact st.only
@[reducible] def BA (s:AQ):List Value:=[.int .i64 s.seq,.int .i64 s.en,.int .i64 s.dir,.bool s.cl]
theorem DB (s:AQ):∀u∈BA s,Value.one u=true:=by
 intro u hu;simp [BA]at hu;rcases hu with rfl | rfl | rfl | rfl <;> rfl
theorem NH (l:List UInt8) (h:l.length≤4):BZ l<4294967296:=
 Nat.lt_of_lt_of_le (NJ l) (zw (Nat.pow_le_pow_right (by omega) h) (by decide))
theorem fM {tp m c:Nat} {A:Option Addr} {l:List UInt8} {h0:AA} (ht:CN h0 tp) (hr:Rd h0 A (l.map AN)) (hl:l.length=m) (hm:m≤1099511627776) (hmc:m≤c):
  AG Tryz.prog 180 [.pointer (some ⟨tp,0,none⟩),.slice A m c] h0 fun v h'=>v=Al [.agg (BA (E3 l).1).toArray,.int .i64 (E3 l).2]∧AV h0 h':=by
 refine Ac Tryz.func180 rfl fun _=> ?_
 have st:=St.start h0
 refine AB ?_
 refine xv (CK rfl) ?_
 rintro _ hp ⟨p4,rfl,hnew⟩
 replace st:=st.new hnew
 refine Aj ?_
 refine AK rfl (fun h=> ?_) (fun h=> ?_)
 ·refine AB ?_
  refine xa (AZ (ps:=[]) (cs:=(BA AQ.nil).toArray) rfl rfl) ?_
  refine xw (us:=BA AQ.nil) st 0 (DB _) fun hp st=> ?_
  simp only [z0,z1]at st
  refine AB ?_
  refine Af (.cons (Ax (vs:=BA AQ.nil) rfl rfl rfl (st.cells 0 rfl)) (.cons (.tmp rfl) .nil)) ?_
  have e:E3 l=(AQ.nil,2):=by unfold E3;rw [if_pos (by omega)]
  rw [e]
  exact ⟨rfl,st.low⟩
 ·refine AJ ?_
  refine xk (LI) rfl ?_
  rintro _ hp ⟨pr,rfl,st2⟩
  obtain rfl:m=512:=by omega
  replace st:=st.join st2
  simp only [z5,z4]at st
  refine AH ?_
  refine xk (KG (n:=4) st.here (hr.ext st.low) hl (by omega) hmc (by omega)) rfl ?_
  rintro v hp st2
  replace st:=st.trans st2
  obtain ⟨A7,n7,c7,rfl,hlen7,_,_,hrd7⟩:=st.row 1 rfl
  rw [List.drop_zero]at hrd7 hlen7 st
  refine xa (Gu hrd7 rfl (by simpa using hlen7) rfl rfl rfl) ?_
  have w4:B2 4=4:=rfl
  have w1:B2 1=1:=rfl
  have t4:∀a,((l.drop a).take 4).length≤4:=fun a=>by rw [z6];omega
  refine AH ?_
  refine xk (EE 8 (n:=BZ ((l.drop 4).take 4)) st.here (hr.ext st.low) hl (by omega) (by omega) (EF (by omega)) rfl) rfl ?_
  rintro _ hp ⟨rfl,st2⟩
  replace st:=st.trans st2
  have x4:=NH _ (t4 4)
  first | refine AD (Bj rfl rfl (by simp only [AI];omega)) rfl rfl ?_ | refine AD (Dm rfl rfl) rfl rfl ?_
  refine AC ?_
  refine xk (EE 12 (n:=BZ ((l.drop 8).take 4)) st.here (hr.ext st.low) hl (by omega) (by omega) (EF (by omega)) rfl) rfl ?_
  rintro _ hp ⟨rfl,st2⟩
  replace st:=st.trans st2
  have x8:=NH _ (t4 8)
  first | refine AD (Bj rfl rfl (by simp only [AI];omega)) rfl rfl ?_ | refine AD (Dm rfl rfl) rfl rfl ?_
  refine AC ?_
  refine xk (EE 16 (n:=BZ ((l.drop 12).take 4)) st.here (hr.ext st.low) hl (by omega) (by omega) (EF (by omega)) rfl) rfl ?_
  rintro _ hp ⟨rfl,st2⟩
  replace st:=st.trans st2
  have x12:=NH _ (t4 12)
  first | refine AD (Bj rfl rfl (by simp only [AI];omega)) rfl rfl ?_ | refine AD (Dm rfl rfl) rfl rfl ?_
  refine xa (AZ (ps:=[(0,.int .i64 (BZ ((l.drop 4).take 4):Nat)),(1,.int .i64 (BZ ((l.drop 8).take 4):Nat)),(2,.int .i64 (BZ ((l.drop 12).take 4):Nat))]) (cs:=(BA ⟨(BZ ((l.drop 4).take 4):Nat),(BZ ((l.drop 8).take 4):Nat),(BZ ((l.drop 12).take 4):Nat),false⟩).toArray) rfl rfl) ?_
  refine xv (CK rfl) ?_
  rintro _ hp ⟨p8,rfl,hnew8⟩
  replace st:=st.new hnew8
  refine xw (us:=BA ⟨(BZ ((l.drop 4).take 4):Nat),(BZ ((l.drop 8).take 4):Nat),(BZ ((l.drop 12).take 4):Nat),false⟩) st 0 (DB _) fun hp st=> ?_
  simp only [z0,z1]at st
  replace st:=st.perm (List.Perm.swap _ _ _)
  refine AJ ?_
  refine xk (EE 17 (n:=BZ ((l.drop 16).take 1)) st.here (hr.ext st.low) hl (by omega) (by omega) (EF (by omega)) rfl) rfl ?_
  rintro _ hp ⟨rfl,st2⟩
  replace st:=st.trans st2
  have h16:BZ ((l.drop 16).take 1)=(l.getD 16 0).toNat:=by
   rw [List.drop_eq_getElem_cons (show 16<l.length by omega),List.take_succ_cons]
   simp [BZ,List.getD,z9 (show 16<l.length by omega)]
  rw [h16]
  have x16:=(l.getD 16 0).toNat_lt
  refine AO ?_
  refine xj st 1 fun hp st=> ?_
  simp only [z0,z1]at st
  refine AL ?_
  refine xk (Mz (st.cell 0 rfl rfl)) rfl ?_
  rintro _ _ ⟨rfl,rfl⟩
  have hcut:=(hr.ext st.low).cut 0 1 c 17 (by omega)
  rw [Nat.zero_mul,List.drop_zero,←List.map_take]at hcut
  refine AC ?_
  refine xk (Gb (ht.ext st.low) hcut (by rw [z6];omega) (by omega)) rfl ?_
  rintro _ _ ⟨rfl,rfl⟩
  have xs:=Gz (l.take 17)
  refine AO ?_
  refine xa (F9 (b:=[83,76,79,84]) rfl rfl) (AB ?_)
  refine AK rfl (fun h=> ?_) (fun h=> ?_)
  ·refine AB ?_
   refine xa (AZ (ps:=[]) (cs:=(BA AQ.nil).toArray) rfl rfl) ?_
   refine xw (us:=BA AQ.nil) st 3 (DB _) fun hp st=> ?_
   simp only [z0,z1]at st
   refine AB ?_
   refine Af (.cons (Ax (vs:=BA AQ.nil) rfl rfl rfl (st.cells 3 rfl)) (.cons (.tmp rfl) .nil)) ?_
   have e:E3 l=(AQ.nil,3):=by unfold E3;rw [if_neg (by omega),if_pos h]
   rw [e]
   exact ⟨rfl,st.low⟩
  ·have hmark:=h
   refine AF ?_
   refine xk (EE 21 (n:=BZ ((l.drop 17).take 4)) st.here (hr.ext st.low) hl (by omega) (by omega) (EF (by omega)) rfl) rfl ?_
   rintro _ hp ⟨rfl,st2⟩
   replace st:=st.trans st2
   have x17:=NH _ (t4 17)
   refine AJ ?_
   refine AK rfl (fun h=> ?_) (fun h=> ?_)
   ·refine AB ?_
    refine xa (AZ (ps:=[]) (cs:=(BA AQ.nil).toArray) rfl rfl) ?_
    refine xw (us:=BA AQ.nil) st 3 (DB _) fun hp st=> ?_
    simp only [z0,z1]at st
    refine AB ?_
    refine Af (.cons (Ax (vs:=BA AQ.nil) rfl rfl rfl (st.cells 3 rfl)) (.cons (.tmp rfl) .nil)) ?_
    have e:E3 l=(AQ.nil,4):=by unfold E3;rw [if_neg (by omega),if_neg hmark,if_pos (by omega)]
    rw [e]
    exact ⟨rfl,st.low⟩
   ·have hsum:¬BZ ((l.drop 17).take 4)≠CM (l.take 17):=by omega
    have hbool:decide (((l.getD 16 0).toNat:Int)=1)=((l.getD 16 0).toNat==1):=Bool.eq_iff_iff.2 (by simp;omega)
    rw [hbool]at st
    generalize hS:AQ.mk (BZ ((l.drop 4).take 4):Nat) (BZ ((l.drop 8).take 4):Nat) (BZ ((l.drop 12).take 4):Nat) ((l.getD 16 0).toNat==1)=S at*
    have hst:E3 l=if 1 < (l.getD 16 0).toNat∨l.drop 21≠List.replicate 491 0∨¬S.right then (AQ.nil,3)else (S,0):=by
     unfold E3;rw [if_neg (by omega),if_neg hmark,if_neg hsum,hS]
    refine AC ?_
    refine GK (Ck [(5,.grow),(9,.grow),(16,.grow)]) [0,1,2,3,4,8,5,6,7,9,10,11,12,13,14,15,16,17,18,19] (by kernel_rfl) (by kernel_rfl) rfl (AF ?_)
    refine Am 54 rfl (fun h=> ?_) (fun h=> ?_)
    ·refine HQ ?_
     refine xa (AZ (ps:=[]) (cs:=(BA AQ.nil).toArray) rfl rfl) ?_
     refine xw (us:=BA AQ.nil) st 3 (DB _) fun hp st=> ?_
     simp only [z0,z1]at st
     refine AB ?_
     refine Af (.cons (Ax (vs:=BA AQ.nil) rfl rfl rfl (st.cells 3 rfl)) (.cons (.tmp rfl) .nil)) ?_
     rw [hst,if_pos (.inl (by omega))]
     exact ⟨rfl,st.low⟩
    ·refine AF ?_
     refine BW (CT (Mz (st.cell 0 rfl rfl)) rfl (by kernel_rfl)) rfl rfl rfl (fun _ _ h=>h.2▸BC.refl _ _) ?_
     rintro _ _ ⟨rfl,rfl⟩
     refine xa (FD rfl rfl rfl (by omega) (by omega)) ?_
     have hcut2:=(hr.ext st.low).cut 21 1 c 491 (by intro hh;simp;omega)
     rw [zf,←List.map_drop,←List.map_take,za (i:=491) (by rw [z7];omega)]at hcut2
     refine xa (Gu hcut2 rfl (by rw [z7];omega) rfl rfl rfl) ?_
     refine BW (CT (O5 (st.cell 0 rfl rfl) (st.cell 0 rfl rfl) (by omega) (by omega)) rfl (by kernel_rfl)) rfl rfl rfl (fun _ _ h=>h.2▸BC.refl _ _) ?_
     rintro _ _ ⟨rfl,rfl⟩
     refine BW (GA (by omega) rfl rfl rfl) rfl rfl rfl (fun _ _ e=>e.1) ?_
     rintro v hp hnew
     have st:=st.new hnew
     obtain ⟨A9,n9,c9,rfl,hlen9,_,_,hrd9⟩:=st.row 0 rfl
     rw [show List.replicate (512-21) (Value.int IntKind.u8 0)=(List.replicate 491 (0:UInt8)).map AN by rw [List.map_replicate];rfl]at hrd9
     refine xa (Gu hrd9 rfl (by simp only [zg]at hlen9 ⊢;omega) rfl rfl rfl) (AF ?_)
     refine Am 66 rfl (fun h=> ?_) (fun h=> ?_)
     ·refine Aj ?_
      refine xa (AZ (ps:=[]) (cs:=(BA AQ.nil).toArray) rfl rfl) ?_
      refine xw (us:=BA AQ.nil) st 4 (DB _) fun hp st=> ?_
      simp only [z0,z1]at st
      refine AB ?_
      refine Af (.cons (Ax (vs:=BA AQ.nil) rfl rfl rfl (st.cells 4 rfl)) (.cons (.tmp rfl) .nil)) ?_
      rw [hst,if_pos (.inr (.inl h))]
      exact ⟨rfl,st.low⟩
     ·refine xa (Ai (st.cells 2 rfl) rfl rfl rfl rfl) ?_
      refine BW (CT (OB _ _ _ _ _) rfl (by kernel_rfl)) rfl rfl rfl (fun _ _ h=>h.2) ?_
      rintro _ hp ⟨rfl,hx⟩
      replace st:=st.ext hx
      rw [hS]
      refine AJ ?_
      refine AK rfl (fun h=> ?_) (fun h=> ?_)
      ·refine AB ?_
       refine xa (AZ (ps:=[]) (cs:=(BA AQ.nil).toArray) rfl rfl) ?_
       refine xw (us:=BA AQ.nil) st 4 (DB _) fun hp st=> ?_
       simp only [z0,z1]at st
       refine AB ?_
       refine Af (.cons (Ax (vs:=BA AQ.nil) rfl rfl rfl (st.cells 4 rfl)) (.cons (.tmp rfl) .nil)) ?_
       rw [hst,if_pos (.inr (.inr h))]
       exact ⟨rfl,st.low⟩
      ·refine AJ ?_
       have hcs:[Value.int IntKind.i64 (BZ ((l.drop 4).take 4):Nat),.int .i64 (BZ ((l.drop 8).take 4):Nat),.int .i64 (BZ ((l.drop 12).take 4):Nat),.bool ((l.getD 16 0).toNat==1)]=BA S:=by rw [←hS]
       rw [hcs]at st
       refine xa (Ai (st.cells 2 rfl) rfl rfl rfl rfl) ?_
       refine xw (us:=BA S) st 4 (DB _) fun hp st=> ?_
       simp only [z0,z1]at st
       refine AB ?_
       refine Af (.cons (Ax (vs:=BA S) rfl rfl rfl (st.cells 4 rfl)) (.cons (.tmp rfl) .nil)) ?_
       rename_i hz _
       rw [hst,if_neg (by
        rintro (h1 | h1 | h1)
        ·omega
        ·contradiction
        ·contradiction)]
       exact ⟨rfl,st.low⟩
end Go.Bn
end

section
namespace Go.Bn
open Go
section
variable {P:Program} {E:Au} {hp:AA} {cl:Ca} {d:Option Tmp} {ty:TypeId} {pos:String} {af:Array Edge} {g:Option (Nat×Bool)}
variable {x y z:Operand} {t t':TypeId}
theorem Nl {e sz b m c:Nat} {zs:List Value} {news:List Value} {A:Option Addr} {B gb:Nat} {h0:AA} {rs:List AE} (st:St B h0 hp rs) (j:Nat) (hj:rs[j]? =some (row e sz (.slice (some ⟨gb,0,none⟩) 0 0) [])) (hn:Rd hp A news) (hl:news.length=m*sz)
  (h1:∀u∈news,Value.one u=true) (hb:news.length*b≤140737488355328) (hx:ev E x=some (.slice (some ⟨gb,0,none⟩) 0 0)) (hy:ev E y=some (.slice A m c)) (ht:DA P t=some (e,sz,b,zs)) (hzs:Nat.beq zs.length sz=true) (hsz:Nat.blt 0 sz=true) (hb0:Nat.blt 0 b=true)
  {ts:Array TypeId} (hts:ts= #[t,t]):
  Bd P ⟨d,.call ⟨.builtin .append,#[x,y],ts⟩,ty,pos,af,g⟩ E hp (fun v' hp'=>AV hp hp'∧St B h0 hp' (rs.set j (row e sz v' news))):=by
 intro n a w ho hw K hK
 subst hw hts
 obtain ⟨S,hS,_⟩:=st.at_ hj
 have hsz':0<sz:=by simpa [Nat.blt_eq]using hsz
 have hb0':0<b:=by simpa [Nat.blt_eq]using hb0
 obtain ⟨v',w',hrun,hinv,hupd⟩:=Vk (ty:=ty) (c:=c) ht (Nat.eq_of_beq_eq_true hzs) hsz' hS hn hl h1 hb0' (by simpa using hb)
 have hrun':(execOp a.eval ⟨d,.call ⟨.builtin .append,#[x,y],#[t,t]⟩,ty,pos,af,g⟩).run P w= .ok (.value v') w':=by
  simp [execOp,resolve,ho.eval hx,ho.eval hy,invoke,builtin,hrun]
 simp only [Oper.wp,hrun',Oper.upon]
 refine hK v' w' hinv ⟨?_,by have:=st.upd hj hupd;simpa using this⟩
 obtain ⟨i,z',hu,hi,hz,hsi,hbi,hzc⟩:=FW ht
 subst hsi
 by_cases hm:m=0
 ·subst hm
  have hne:news=[]:=List.eq_nil_of_length_eq_zero (by simpa using hl)
  subst hne
  have h2:(Builtin.append_ #[t,t] ty #[.slice (some ⟨gb,0,none⟩) 0 0,.slice A 0 c]).run P w= .ok (.slice (some ⟨gb,0,none⟩) 0 0) w:=by
   cases A <;> simp [Builtin.append_,run_underlying hu,sizeOf,typeInfo,hi,Builtin.lenOf,Builtin.firstCells,storeCells,loadCells,loadCellsFrom]
  have h3:=hrun.symm.trans h2
  cases h3
  exact AV.refl _
 ·cases A with
  | none=>
   exfalso
   rcases hn with h | ⟨_,_,h,_⟩
   ·subst h
    have:=Nat.mul_pos (Nat.pos_of_ne_zero hm) hsz'
    simp at hl;omega
   ·cases h
  | some aa=>
   have hcell:=Ke hn rfl
   have q2:m*i.bytes≤140737488355328:=by
    have h3:m≤news.length:=by rw [hl];exact Nat.le_mul_of_pos_right _ hsz'
    rw [hbi]
    exact zw (Nat.mul_le_mul_right _ h3) hb
   have q1:m≤140737488355328:=zw (Nat.le_mul_of_pos_right _ (by rw [hbi];exact hb0')) q2
   have h2:=run_append_grow (P:=P) w t ty e i z' hu hi hz ⟨gb,0,none⟩ 0 0 [] (by simp) (fun j u hu=>by simp at hu) aa m c news hl hcell (by omega) (by omega) (growslice_fits (by omega) (by simpa using q2))
   have h3:=hrun.symm.trans h2
   cases h3
   exact Fg _ _
theorem No {e sz b:Nat} {zs:List Value} (ht:DA P t=some (e,sz,b,zs)):Bd P ⟨d,.buildSlice t 0 #[],ty,pos,af,g⟩ E hp (fun u hp'=>∃gb,u= .slice (some ⟨gb,0,none⟩) 0 0∧EZ (row e sz (.slice (some ⟨gb,0,none⟩) 0 0) []) hp hp'):=by
 intro n a w ho hw K hK
 subst hw
 obtain ⟨i,z,hu,hi,hz,hsz,_,hzc⟩:=FW ht
 have hrun:(execOp a.eval ⟨d,.buildSlice t 0 #[],ty,pos,af,g⟩).run P w= .ok (.value (.slice (some ⟨w.heap.size,0,none⟩) 0 0)) (w.alloc (.cells #[] e)):=by
  simp only [execOp,Instr.buildSlice,Sem.run_bind,run_underlying hu,Result.andThen_ok,sizeOf,typeInfo,program,Sem.run,hi,Sem.run_pure,Nat.zero_mul,if_true,List.map_toArray]
  simp [Instr.fill,Jt]
  exact congrArg (fun x=>w.alloc (.cells x e)) (Array.ext (by simp) (fun i h1 _=>absurd h1 (by simp)))
 simp only [Oper.wp,hrun,Oper.upon]
 refine hK _ _ ⟨rfl,rfl,rfl⟩ ⟨w.heap.size,rfl,?_⟩
 have:=KS w.heap e sz 0 [] (by simp) (by simp [maxLen])
 exact this
end
end Go.Bn
end

section
namespace Go.Bn
open Go Proofs
theorem SZ {n:Nat} (hn:n≤1073741824) (h0:AA):AG Tryz.prog 218 [nV n] h0 fun v h'=>v=nV (Ba n)∧h0=h':=by
 refine BE Tryz.func218 rfl fun _=>AO ?_
 refine xa (CH (n:=512) rfl rfl (by simp only [AI];omega)) ?_
 refine xa (Bk (n:=1) rfl rfl (by omega) (by simp only [AI];omega)) ?_
 refine xa (KY (n:=512) rfl rfl (by omega) (by simp only [AI];omega)) (AF ?_)
 exact ⟨rfl,rfl⟩
theorem SX {a n:Nat} (h:a+n≤2097152) (h0:AA):AG Tryz.prog 135 [nV a,nV n] h0 fun v h'=>v= .bool true∧h0=h':=by
 refine Ac Tryz.func135 rfl fun _=>AP ?_
 refine AT (.bool true) (congrArg Value.bool (decide_eq_true (by omega))) (AF ?_)
 refine AT (.bool true) (congrArg Value.bool (decide_eq_true (by omega))) (AJ ?_)
 refine AT (.bool true) (congrArg Value.bool (decide_eq_true (by omega))) (AJ ?_)
 first | refine AD (Bk (m:=2097152) rfl rfl (by omega) (by simp only [AI];omega)) rfl rfl ?_ | refine AD (EU rfl rfl (by simp only [AI];omega)) rfl rfl ?_ | refine AD (II rfl rfl) rfl rfl ?_
 refine AC ?_
 refine AT (.bool true) (congrArg Value.bool (decide_eq_true (by omega))) (AJ ?_)
 exact ⟨rfl,rfl⟩
theorem JH {q n c:Nat} {A:Option Addr} {h0:AA} (hc:Az h0 ⟨q,0,none⟩=some (.slice A n c)) (hn:n≤1073741824):AG Tryz.prog 85 [.pointer (some ⟨q,0,none⟩)] h0 fun v h'=>v=nV (n/512)∧h0=h':=by
 refine BE Tryz.func85 rfl fun _=>EY ?_
 refine xl (hc) rfl (AC ?_)
 refine xa (KY (n:=512) rfl rfl (by omega) (by simp only [AI];omega)) (AF ?_)
 exact ⟨rfl,rfl⟩
theorem SU {q n c a m:Nat} {A:Option Addr} {h0:AA} (hc:Az h0 ⟨q,0,none⟩=some (.slice A n c)) (hn:n≤1073741824) (h:a+m≤2097152):AG Tryz.prog 170 [.pointer (some ⟨q,0,none⟩),nV a,nV m] h0 fun v h'=>v=Al [nV (if m=0 then n/512 else max (n/512) (Ba (a+m))),.bool true]∧h0=h':=by
 refine Bg Tryz.func170 rfl fun _=>B3 ?_
 refine xk (SX h _) rfl ?_
 rintro _ _ ⟨rfl,rfl⟩
 refine xa (Bm rfl) (BP ?_)
 refine AK rfl (fun h=> ?_) (fun h=> ?_)
 ·have hm0:m=0:=by omega
  refine AF ?_
  refine xk (JH hc hn) rfl ?_
  rintro _ _ ⟨rfl,rfl⟩
  refine AJ ?_
  rw [if_pos hm0]
  exact ⟨rfl,rfl⟩
 ·have hm0:¬m=0:=by omega
  refine AJ ?_
  refine xk (JH hc hn) rfl ?_
  rintro _ _ ⟨rfl,rfl⟩
  refine AF ?_
  refine xk (SZ (by omega) _) rfl ?_
  rintro _ _ ⟨rfl,rfl⟩
  refine AH ?_
  have e:((max (n/512) (Ba (a+m)):Nat):Int)=max ((n/512:Nat):Int) ((Ba (a+m):Nat):Int):=by omega
  rw [if_neg hm0]
  exact ⟨by rw [nV,e],rfl⟩
theorem JG {q n c i:Nat} {A:Option Addr} {h0:AA} (hc:Az h0 ⟨q,0,none⟩=some (.slice A n c)) (hn:(i+1)*512≤n) (hnc:n≤c) (hn2:n≤1073741824):AG Tryz.prog 94 [.pointer (some ⟨q,0,none⟩),nV i] h0 fun v h'=>v= .slice (Eb A (i*512) 1 ((i+1)*512)) 512 512∧h0=h':=by
 refine Ac Tryz.func94 rfl fun _=>AO ?_
 refine xa (D0 (n:=512) rfl rfl (by simp only [AI];omega)) (AB ?_)
 refine xa (D0 (n:=512) rfl rfl (by simp only [AI];omega)) (AP ?_)
 refine xl (hc) rfl (AF ?_)
 refine xa (Ua rfl rfl rfl rfl rfl (by omega) (by omega) (by omega)) (AF ?_)
 rw [show (i+1)*512-i*512=512 by omega]
 exact ⟨rfl,rfl⟩
def IK (v:Value):Option (List UInt8)→AE
  | none=>Fb (v= .slice none 0 0) emp
  | some s=>row 5 1 v (s.map AN)
def J2 (v:Value) (w:Nat×List UInt8):AE:=row 5 1 v (w.2.map AN)
@[reducible] def Qc:List Value→List (Option (List UInt8))→AE:=C4 IK
@[reducible] def Q6:List Value→List (Nat×List UInt8)→AE:=C4 J2
def FH:List Value→List (Nat×List UInt8)→List Value
  | v::vs,w::ws=>nV w.1::v::FH vs ws
  | _,_=>[]
def Dg (q:Nat) (d:Dk):AE:=Cb fun (x:(Value×Value×Value)×List Value×List Value)=>Fb (d.ok∧d.safe.length≤4096)
  (CD (CD (CD (CD (CD (pt q 168 [x.1.1,x.1.2.1,x.1.2.2]) (row 5 1 x.1.1 (d.now.map AN))) (row 23 1 x.1.2.1 x.2.1)) (row 172 2 x.1.2.2 (FH x.2.2 d.wait))) (Qc x.2.1 d.safe)) (Q6 x.2.2 d.wait))
theorem St.dk {B q:Nat} {h0 hp:AA} {d:Dk} {F:List AE}:St B h0 hp (Dg q d::F)↔(d.ok∧d.safe.length≤4096)∧∃vn vs vw ss ws,St B h0 hp (pt q 168 [vn,vs,vw]::Bn.row 5 1 vn (d.now.map AN)::Bn.row 23 1 vs ss::Bn.row 172 2 vw (FH ws d.wait)::Qc ss d.safe::Q6 ws d.wait::F):=by
 constructor
 ·intro st
  obtain ⟨⟨⟨vn,vs,vw⟩,ss,ws⟩,st⟩:=St.ex.1 st
  obtain ⟨h,st⟩:=St.and.1 st
  exact ⟨h,vn,vs,vw,ss,ws,St.star.1 (St.star.1 (St.star.1 (St.star.1 (St.star.1 st))))⟩
 ·rintro ⟨h,vn,vs,vw,ss,ws,st⟩
  exact St.ex.2 ⟨((vn,vs,vw),ss,ws),St.and.2 ⟨h,St.star.2 (St.star.2 (St.star.2 (St.star.2 (St.star.2 st))))⟩⟩
theorem St.dkI {B q:Nat} {h0 hp:AA} {d:Dk} {F:List AE} {vn vs vw:Value} {ss ws:List Value} (h:d.ok∧d.safe.length≤4096) (st:St B h0 hp (pt q 168 [vn,vs,vw]::Bn.row 5 1 vn (d.now.map AN)::Bn.row 23 1 vs ss::Bn.row 172 2 vw (FH ws d.wait)::Qc ss d.safe::Q6 ws d.wait::F)):St B h0 hp (Dg q d::F):=
 St.dk.2 ⟨h,vn,vs,vw,ss,ws,st⟩
theorem ZK {q m c a n:Nat} {A:Option Addr} {l:List UInt8} {h0:AA} (hc:Az h0 ⟨q,0,none⟩=some (.slice A m c)) (hr:Rd h0 A (l.map AN)) (hl:l.length=m) (hm:m≤2097152) (hmc:m≤c) (hn:a+n≤m):
  AG Tryz.prog 84 [.pointer (some ⟨q,0,none⟩),nV a,nV n] h0 fun v h'=>∃w,v=Al [w,nV 0]∧St h0.size h0 h' [row 5 1 w (((l.drop a).take n).map AN)]:=by
 refine Bg Tryz.func84 rfl fun _=> ?_
 have st:=St.start h0
 refine B3 ?_
 refine xk (SX (by omega) h0) rfl ?_
 rintro _ _ ⟨rfl,rfl⟩
 refine xa (Bm rfl) (AO ?_)
 refine xv (GA (by omega) rfl rfl rfl) ?_
 rintro v hp hnew
 have hxx:=hnew.1
 replace st:=st.new hnew
 obtain ⟨A2,n2,c2,rfl,hlen2,_,_,_⟩:=st.row 0 rfl
 have hn2:n2=n:=by simpa using hlen2.symm
 subst hn2
 have hc2:=Bz hxx hc
 refine Aj ?_
 refine xl (hc2) rfl (AF ?_)
 refine AK rfl (fun h=> ?_) (fun h=> ?_)
 ·refine AH ?_
  refine xl (hc2) rfl (AC ?_)
  refine xa (FD rfl rfl rfl (by omega) hmc) ?_
  have hcut:=(hr.ext hxx).cut a 1 c (m-a) (by intro hh;simp;omega)
  rw [zf,←List.map_drop,←List.map_take,za (i:=m-a) (by rw [z7];omega)]at hcut
  refine xv (Ue st 0 rfl hcut (by simp [hl]) (by simp) (Dl _) rfl rfl rfl rfl) ?_
  rintro _ hp ⟨rfl,st⟩
  simp only [z0,z1,zf]at st
  rw [Nat.min_eq_right (by omega),show (List.replicate n2 (Value.int IntKind.u8 0)).drop n2=[] by simp,List.append_nil,←List.map_take]at st
  refine AP ?_
  exact ⟨_,rfl,st⟩
 ·refine AP ?_
  have h0n:n2=0:=by omega
  subst h0n
  exact ⟨_,rfl,by simpa using st⟩
end Go.Bn
end

section
namespace Go.Bn
open Go Proofs
theorem dm (n:Nat):(List.replicate n (0:UInt8)).map AN=List.replicate n (.int .u8 0):=by rw [List.map_replicate];rfl
theorem ZH {B q size:Nat} {d:Dk} {F:List AE} {h0:AA} (st0:St B h0 h0 (Dg q d::F)) (hs:size≤4096):
  AG Tryz.prog 220 [.pointer (some ⟨q,0,none⟩),nV size] h0 fun _ h'=>St B h0 h' (Dg q (d.grow size)::F):=by
 obtain ⟨⟨hok,h4⟩,vn,vs,vw,ss,ws,st⟩:=St.dk.1 st0
 have hlen:=hok.len
 obtain ⟨A,n,c,rfl,hn,hnc,hcm,hrd⟩:=st.row 1 rfl
 rw [z3,zf]at hn
 have hc:=st.cell 0 (i:=0) rfl rfl
 have hk:n/512=d.safe.length:=by omega
 refine Ac Tryz.func220 rfl fun _=>AJ ?_
 refine xk (JH hc (by omega)) rfl ?_
 rintro _ _ ⟨rfl,rfl⟩
 refine xa (EU rfl rfl (by simp only [AI];omega)) ?_
 rw [hk]
 refine AO ?_
 refine AK rfl (fun h=> ?_) (fun h=> ?_)
 ·obtain ⟨m,hm⟩:∃m,size-d.safe.length=m:=⟨_,rfl⟩
  have hme:(size:Int) - (d.safe.length:Int)=(m:Int):=by omega
  refine AL ?_
  refine xc st 0 0 ?_
  refine AC ?_
  refine AT (nV m) (congrArg (Value.int .i64) hme) ?_
  refine xa (D0 (n:=512) rfl rfl (by simp only [AI];omega)) ?_
  refine BN (P0 st 1 rfl (by omega) rfl (by rw [z3];omega) rfl rfl rfl rfl rfl rfl) rfl rfl rfl fun v1 hp st=> ?_
  simp only [z0,z1]at st
  obtain ⟨_,_,_,rfl,_⟩:=st.row 1 rfl
  refine AB ?_
  refine xj st 0 fun hp st=> ?_
  simp only [z0,z1]at st
  refine AL ?_
  refine xc st 0 1 ?_
  refine AC ?_
  refine AT (nV m) (congrArg (Value.int .i64) hme) ?_
  obtain ⟨_,n2,c2,rfl,hn2,_,_,_⟩:=st.row 2 rfl
  have hsl:=St.zip_len (st.sel 5 [4])
  refine BN (P0 st 2 rfl (by omega) rfl (by omega) rfl rfl rfl rfl rfl rfl) rfl rfl rfl fun v2 hp st=> ?_
  simp only [z0,z1]at st
  obtain ⟨_,_,_,rfl,_⟩:=st.row 2 rfl
  refine AB ?_
  refine xj st 0 fun hp st=> ?_
  simp only [z0,z1]at st
  refine AB ?_
  obtain ⟨g1,g2⟩:=d.grow_ok hok size
  rw [show d.grow size=⟨d.now++List.replicate (m*512) 0,d.safe++List.replicate m none,d.wait⟩ by rw [←hm];rfl]at g1 g2 ⊢
  rw [←dm,←List.map_append]at st
  replace st:=st.sel 6 [4,0,1,2,3,5]
  simp only [BU,BV,An]at st
  replace st:=(St.zip_rep (a:= .slice none 0 0) (b:=none) (fun h=>St.and.2 ⟨rfl,St.emp.2 h⟩) m st).sel 6 [1,2,3,4,0,5]
  exact St.dkI ⟨g1,by rw [g2];omega⟩ st
 ·refine AB ?_
  rw [Dk.grow_le (by omega)]
  exact St.dkI ⟨hok,h4⟩ st
theorem Pu (k:Nat) (A:Option Addr) (n c:Nat):∀u∈[nV k,Value.slice A n c],Value.one u=true:=by
 intro u hu
 simp only [List.mem_cons,zl,or_false]at hu
 rcases hu with rfl | rfl <;> rfl
theorem Km:∀ {ws:List Value} {wl:List (Nat×List UInt8)},ws.length=wl.length→(FH ws wl).length=2*wl.length
 | [],[],_=>rfl
 | _::_,_::_,h=>by
  simp only [FH,ze]at h ⊢
  rw [Km (by omega)];omega
 | [],_::_,h=>by simp at h
 | _::_,[],h=>by simp at h
theorem Q5 {v:Value} {w:Nat×List UInt8}:∀ {ws:List Value} {wl:List (Nat×List UInt8)},ws.length=wl.length→FH (ws++[v]) (wl++[w])=FH ws wl++[nV w.1,v]
 | [],[],_=>rfl
 | _::_,_::_,h=>by
  simp only [z5,FH,Q5 (by simpa using h:_)]
 | [],_::_,h=>by simp at h
 | _::_,[],h=>by simp at h
theorem Dk.mid_wait {d:Dk} {i:Nat} {c:List UInt8} {k:Nat}:(d.mid i c k).wait.length=d.wait.length+(k-i/512):=by simp [Dk.mid]
theorem Sb {B q a m c:Nat} {A:Option Addr} {b:List UInt8} {d:Dk} {F:List AE} {h0:AA} (st0:St B h0 h0 (Dg q d::F)) (hr:∀h' rs,St B h0 h' (rs++F)→Rd h' A (b.map AN)) (hl:b.length=m) (hmc:m≤c) (ha:a+m≤2097152) (hw:d.wait.length≤1073741824):
  AG Tryz.prog 172 [.pointer (some ⟨q,0,none⟩),nV a,.slice A m c] h0 fun v h'=>v=nV 0∧St B h0 h' (Dg q (d.write a b)::F):=by
 obtain ⟨⟨hok,h4⟩,vn,vs,vw,ss,ws,st⟩:=St.dk.1 st0
 have hlen:=hok.len
 obtain ⟨A1,n,c1,rfl,hn,hnc,hcm,hrd⟩:=st.row 1 rfl
 rw [z3,zf]at hn
 have hc:=st.cell 0 (i:=0) rfl rfl
 have hk:n/512=d.safe.length:=by omega
 have hsn:=N9 (a+m)
 refine Bg Tryz.func172 rfl fun _=>BP ?_
 refine xk (SU hc (by omega) ha) rfl ?_
 rintro _ _ ⟨rfl,rfl⟩
 rw [hk]
 refine Bu ?_
 refine xa (Bm rfl) (BP ?_)
 refine AK rfl (fun h=> ?_) (fun h=> ?_)
 ·have hb:b=[]:=List.eq_nil_of_length_eq_zero (by omega)
  refine AH ?_
  refine ⟨rfl,?_⟩
  unfold Dk.write
  rw [if_pos hb]
  exact st0
 ·have hm0:¬m=0:=by omega
  have hb:b≠[]:=fun e=>hm0 (by rw [←hl,e];rfl)
  rw [if_neg hm0]
  have hs4:Ba (a+m)≤4096:=by unfold Ba;omega
  refine AL ?_
  refine xk (ZH st0 (by omega)) rfl ?_
  rintro _ hp1 st2
  rw [Dk.grow_max]at st2
  clear st
  obtain ⟨⟨hok2,h42⟩,vn,vs,vw,ss,ws,st⟩:=St.dk.1 st2
  have hg:=d.grow_ok hok (Ba (a+m))
  have hlen2:=hok2.len
  obtain ⟨g,n2,c2,rfl,hn2,hnc2,_,hrd2⟩:=st.row0 1 rfl (by rw [z3];omega)
  rw [z3,zf]at hn2
  refine AL ?_
  refine xc st 0 0 ?_
  refine AC ?_
  refine xa (FD rfl rfl rfl (by omega) hnc2) ?_
  rw [GN (by omega),zf]
  refine AC ?_
  refine xv (Ka st 1 rfl (hr _ [_,_,_,_,_,_] st) (by rw [z3,hl,zf]) (Dl _) (by rw [z3];omega) rfl rfl rfl rfl) ?_
  rintro _ hp ⟨rfl,st⟩
  simp only [z0,z1,zf]at st
  rw [Nat.min_eq_left (by omega),←List.map_take,←List.map_take,←List.map_drop,←List.map_append,←List.map_append,za (l:=b) (i:=m) (by omega),z8,←hl]at st
  refine AH ?_
  refine xa (KY (n:=512) rfl rfl (by omega) (by simp only [AI];omega)) (AF ?_)
  have hwr:=Dk.mid_ok hok a hb (k:=a/512) (by unfold Ba;omega)
  have st:St B h0 hp (Dg q (d.mid a b (a/512))::F):=St.dkI ⟨hwr,by simp only [Dk.mid];rw [hl];exact h42⟩ (ss:=ss) (ws:=ws) (by
   simp only [Dk.mid,Nat.sub_self,List.range'_zero,List.map_nil,List.append_nil]
   exact st)
  refine BD (fun s=>Ba (a+m)-s) (fun s=>[(0,.pointer (some ⟨q,0,none⟩)),(1,nV a),(2,.slice A m c),(9,nV s)])
   (fun s hp=>a/512≤s∧s≤Ba (a+m)∧St B h0 hp (Dg q (d.mid a b s)::F)) (a/512) (Bt rfl rfl rfl rfl) ⟨Nat.le_refl _,by unfold Ba;omega,st⟩ ?_
  clear hrd2 hn2 hnc2 hok2 h42 hlen2 st2 hwr st hrd hc
  rintro s hp ⟨hs1,hs2,st⟩
  refine AP ?_
  refine xk (SZ (by omega) _) rfl ?_
  rintro _ _ ⟨rfl,rfl⟩
  refine AB ?_
  refine AK rfl (fun h=> ?_) (fun h=> ?_)
  ·obtain ⟨⟨hok2,h42⟩,vn,vs,vw,ss,ws,st⟩:=St.dk.1 st
   have hwt:(d.mid a b s).wait.length=d.wait.length+(s-a/512):=Dk.mid_wait
   have hlen2:=hok2.len
   have hsz:(d.mid a b s).safe.length=max d.safe.length (Ba (a+m)):=by simp only [Dk.mid];rw [hl];exact hg.2
   have hwl:=St.zip_len (st.sel 6 [5])
   obtain ⟨A1,n2,c2,rfl,hn2,hnc2,hcm2,hrd2⟩:=st.row 1 rfl
   rw [z3,zf]at hn2
   have hcut:=hrd2.cut (s*512) 1 ((s+1)*512) 512 (by omega)
   rw [zf,←List.map_drop,←List.map_take,show ((d.mid a b s).now.drop (s*512)).take 512=CC (d.mid a b s).now s from rfl]at hcut
   have hsl:(CC (d.mid a b s).now s).length=512:=Kg (by omega)
   have hst5:=st
   refine AF ?_
   refine HV (Ck [(9,.grow),(10,.grow)]) [0,1,2,3,4,5,7,8] 6 [9,10,11,12,13,14,15,16] 9 [6,10,11,12,13,14,15,16] (by kernel_rfl) (by kernel_rfl) rfl rfl rfl (AJ ?_)
   refine xc st 0 2 ?_
   refine AJ ?_
   refine HT (σ:=Unit) (fun _=>[(0,.pointer (some ⟨q,0,none⟩)),(1,nV a),(2,.slice A m c),(9,nV s)]) (fun _ hp=>St B h0 hp (Dg q (d.mid a b (s+1))::F)) ?_ ?_ ?_
   ·refine BW (No rfl) rfl rfl rfl (fun _ _ ⟨_,_,e⟩=>e.1) ?_
    rintro _ hp ⟨gb,rfl,hnew⟩
    have hxx:=hnew.1
    replace st:=st.new hnew
    replace hcut:=hcut.ext hxx
    refine BW (CT (JG (st.cell 1 (i:=0) rfl rfl) (by omega) hnc2 (by omega)) rfl (by kernel_rfl)) rfl rfl rfl (fun _ _ h=>h.2▸BC.refl _ _) ?_
    rintro _ _ ⟨rfl,rfl⟩
    refine BW (Nl st 0 rfl hcut (by rw [z3,hsl]) (Dl _) (by rw [z3,hsl];decide) rfl rfl rfl rfl rfl rfl rfl) rfl rfl rfl (fun _ _ e=>e.1) ?_
    rintro v hp ⟨hxx,st⟩
    simp only [z0]at st
    obtain ⟨A3,n3,c3,rfl,_,_,_,_⟩:=st.row 0 rfl
    refine xa (AZ (ps:=[(0,nV s),(1,.slice A3 n3 c3)]) (cs:= #[nV s,.slice A3 n3 c3]) rfl rfl) ?_
    refine BW (D4 (us:=[nV s,.slice A3 n3 c3]) rfl rfl rfl rfl (by kernel_rfl)) rfl rfl rfl (fun _ _ ⟨_,_,e,_⟩=>e) ?_
    rintro _ hp ⟨A4,rfl,hxx,hrd4⟩
    replace st:=st.ext hxx
    refine BN (BY st 4 rfl hrd4 rfl (Pu _ _ _ _) (by rw [Km hwl,hwt];simp only [ze,zk];omega) rfl rfl rfl rfl rfl rfl rfl) rfl rfl rfl fun v hp st=> ?_
    simp only [z0,z1]at st
    obtain ⟨_,_,_,rfl,_⟩:=st.row 4 rfl
    refine AB ?_
    refine xj st 1 fun hp st=> ?_
    simp only [z0,z1]at st
    refine AC ?_
    replace st:=st.sel 7 [6,0,1,2,3,4,5]
    simp only [BU,BV,An]at st
    replace st:=(St.zip_snoc (f:=J2) (b:=(s,CC (d.mid a b s).now s)) st).sel 6 [1,2,3,4,5,0]
    simp only [BU,BV,An]at st
    have hm1:=Dk.mid_ok hok a hb (k:=s+1) (by rw [hl];omega)
    rw [Dk.mid_succ hs1]at hm1
    refine C7 () (Bt rfl rfl rfl rfl) ?_
    rw [Dk.mid_succ hs1]
    exact St.dkI ⟨hm1,h42⟩ (by rw [Q5 hwl];exact st)
   ·refine BW (CT (JG (st.cell 0 (i:=0) rfl rfl) (by omega) hnc2 (by omega)) rfl (by kernel_rfl)) rfl rfl rfl (fun _ _ h=>h.2▸BC.refl _ _) ?_
    rintro _ _ ⟨rfl,rfl⟩
    refine BW (No rfl) rfl rfl rfl (fun _ _ ⟨_,_,e⟩=>e.1) ?_
    rintro _ hp ⟨gb,rfl,hnew⟩
    have hxx:=hnew.1
    replace st:=st.new hnew
    replace hcut:=hcut.ext hxx
    refine BW (Nl st 0 rfl hcut (by rw [z3,hsl]) (Dl _) (by rw [z3,hsl];decide) rfl rfl rfl rfl rfl rfl rfl) rfl rfl rfl (fun _ _ e=>e.1) ?_
    rintro v hp ⟨hxx,st⟩
    simp only [z0]at st
    obtain ⟨A3,n3,c3,rfl,_,_,_,_⟩:=st.row 0 rfl
    refine xa (AZ (ps:=[(0,nV s),(1,.slice A3 n3 c3)]) (cs:= #[nV s,.slice A3 n3 c3]) rfl rfl) ?_
    refine BW (D4 (us:=[nV s,.slice A3 n3 c3]) rfl rfl rfl rfl (by kernel_rfl)) rfl rfl rfl (fun _ _ ⟨_,_,e,_⟩=>e) ?_
    rintro _ hp ⟨A4,rfl,hxx,hrd4⟩
    replace st:=st.ext hxx
    refine BN (BY st 4 rfl hrd4 rfl (Pu _ _ _ _) (by rw [Km hwl,hwt];simp only [ze,zk];omega) rfl rfl rfl rfl rfl rfl rfl) rfl rfl rfl fun v hp st=> ?_
    simp only [z0,z1]at st
    obtain ⟨_,_,_,rfl,_⟩:=st.row 4 rfl
    refine AB ?_
    refine xj st 1 fun hp st=> ?_
    simp only [z0,z1]at st
    refine AC ?_
    replace st:=st.sel 7 [6,0,1,2,3,4,5]
    simp only [BU,BV,An]at st
    replace st:=(St.zip_snoc (f:=J2) (b:=(s,CC (d.mid a b s).now s)) st).sel 6 [1,2,3,4,5,0]
    simp only [BU,BV,An]at st
    have hm1:=Dk.mid_ok hok a hb (k:=s+1) (by rw [hl];omega)
    rw [Dk.mid_succ hs1]at hm1
    refine C7 () (Bt rfl rfl rfl rfl) ?_
    rw [Dk.mid_succ hs1]
    exact St.dkI ⟨hm1,h42⟩ (by rw [Q5 hwl];exact st)
   clear st hst5 hcut hrd2
   rintro ⟨⟩ hp st
   refine AL ?_
   exact Ad (s+1) (Bt rfl rfl rfl rfl) ⟨by omega,by omega,st⟩ (by omega)
  ·refine AL ?_
   obtain rfl:s=Ba (a+m):=by omega
   refine ⟨rfl,?_⟩
   have:=Dk.mid_end (d:=d) (i:=a) hb
   rw [hl]at this
   rw [←this]
   exact st
theorem Sa {B q:Nat} {d:Dk} {F:List AE} {h0:AA} (st0:St B h0 h0 (Dg q d::F)):
  AG Tryz.prog 95 [.pointer (some ⟨q,0,none⟩)] h0 fun _ h'=>St B h0 h' (Dg q d.sync::F):=by
 obtain ⟨⟨hok,h4⟩,vn,vs,vw,ss,ws,st⟩:=St.dk.1 st0
 have hlen:=hok.len
 obtain ⟨A,n,c,rfl,hn,hnc,hcm,_⟩:=st.row 1 rfl
 rw [z3,zf]at hn
 obtain ⟨A2,n2,c2,rfl,hn2,hnc2,_,_⟩:=st.row 2 rfl
 rw [zf]at hn2
 have hsl:=St.zip_len (st.sel 5 [4])
 refine BE Tryz.func95 rfl fun _=>Bq ?_
 refine xc st 0 1 ?_
 refine AJ ?_
 replace st:=(St.zip_nil (f:=IK)).2 (st.sel 6 [0,1,2,3])
 simp only [BU,BV,An]at st
 replace st:=st.sel 5 [1,2,3,4,0]
 simp only [BU,BV,An]at st
 refine BD (fun s=>n2-s.1) (fun s=>[(0,.pointer (some ⟨q,0,none⟩)),(9,nV n2),(10,nV s.1)])
  (fun (s:Nat×List Value) hp=>s.1≤n2∧s.2.length=s.1∧St B h0 hp (pt q 168 [.slice A n c,.slice A2 n2 c2,vw]::row 5 1 (.slice A n c) (d.now.map AN)::row 23 1 (.slice A2 n2 c2) (s.2++ss.drop s.1)::row 172 2 vw (FH ws d.wait)::C4 IK s.2 ((List.range s.1).map fun k=>some (CC d.now k))::F))
  (0,[]) (DJ rfl rfl rfl) ⟨Nat.zero_le _,rfl,st⟩ ?_
 clear st st0
 rintro ⟨i,l1⟩ hp ⟨hi,hl1,st⟩
 simp only at hi hl1 st ⊢
 refine AH ?_
 refine AK rfl (fun h=> ?_) (fun h=> ?_)
 ·obtain ⟨A1,n1,c1,e1,hn1,_,_,hrd⟩:=st.row 1 rfl
  cases e1
  have hcut:=hrd.cut (i*512) 1 ((i+1)*512) 512 (by omega)
  rw [zf,←List.map_drop,←List.map_take,show (d.now.drop (i*512)).take 512=CC d.now i from rfl]at hcut
  have hsc:(CC d.now i).length=512:=Kg (by omega)
  obtain ⟨g2,_,_,e2,_⟩:=st.row0 2 rfl (by rw [z2,z7];omega)
  cases e2
  refine AP ?_
  refine HV (Ck [(8,.grow),(9,.grow)]) [0,1,2,3,4,6,7] 5 [8,9,10,11] 8 [5,9,10,11] (by kernel_rfl) (by kernel_rfl) rfl rfl rfl (AF ?_)
  refine xc st 0 1 ?_
  refine AJ ?_
  refine HT (σ:=Value) (fun _=>[(0,.pointer (some ⟨q,0,none⟩)),(9,nV n2),(10,nV i)]) (fun v hp=>St B h0 hp (pt q 168 [.slice A n c,.slice (some ⟨g2,0,none⟩) n2 c2,vw]::row 5 1 (.slice A n c) (d.now.map AN)::row 23 1 (.slice (some ⟨g2,0,none⟩) n2 c2) (l1++[v]++ss.drop (i+1))::row 172 2 vw (FH ws d.wait)::C4 IK (l1++[v]) ((List.range (i+1)).map fun k=>some (CC d.now k))::F)) ?_ ?_ ?_
  ·refine BW (No rfl) rfl rfl rfl (fun _ _ ⟨_,_,e⟩=>e.1) ?_
   rintro _ hp ⟨gb,rfl,hnew⟩
   have hxx:=hnew.1
   replace st:=st.new hnew
   replace hcut:=hcut.ext hxx
   refine BW (CT (JG (st.cell 1 (i:=0) rfl rfl) (by omega) hnc (by omega)) rfl (by kernel_rfl)) rfl rfl rfl (fun _ _ h=>h.2▸BC.refl _ _) ?_
   rintro _ _ ⟨rfl,rfl⟩
   refine BW (Nl st 0 rfl hcut (by rw [z3,hsc]) (Dl _) (by rw [z3,hsc];decide) rfl rfl rfl rfl rfl rfl rfl) rfl rfl rfl (fun _ _ e=>e.1) ?_
   rintro v hp ⟨hxx,st⟩
   simp only [z0]at st
   obtain ⟨A3,n3,c3,rfl,_,_,_,_⟩:=st.row 0 rfl
   refine AC ?_
   refine BT (EL st 3 (o:=0) (i:=i) rfl rfl rfl (by rw [z2,z7];omega) rfl rfl) rfl rfl fun _ hp st=> ?_
   simp only [z0,z1]at st
   refine AC ?_
   replace st:=st.sel 6 [5,0,1,2,3,4]
   simp only [BU,BV,An]at st
   replace st:=(St.zip_snoc (f:=IK) (b:=some (CC d.now i)) st).sel 5 [1,2,3,4,0]
   simp only [BU,BV,An]at st
   rw [V7 _ hl1 (by omega)]at st
   refine C7 (.slice A3 n3 c3) (DJ rfl rfl rfl) ?_
   rw [List.range_succ,List.map_append]
   exact st
  ·refine BW (CT (JG (st.cell 0 (i:=0) rfl rfl) (by omega) hnc (by omega)) rfl (by kernel_rfl)) rfl rfl rfl (fun _ _ h=>h.2▸BC.refl _ _) ?_
   rintro _ _ ⟨rfl,rfl⟩
   refine BW (No rfl) rfl rfl rfl (fun _ _ ⟨_,_,e⟩=>e.1) ?_
   rintro _ hp ⟨gb,rfl,hnew⟩
   have hxx:=hnew.1
   replace st:=st.new hnew
   replace hcut:=hcut.ext hxx
   refine BW (Nl st 0 rfl hcut (by rw [z3,hsc]) (Dl _) (by rw [z3,hsc];decide) rfl rfl rfl rfl rfl rfl rfl) rfl rfl rfl (fun _ _ e=>e.1) ?_
   rintro v hp ⟨hxx,st⟩
   simp only [z0]at st
   obtain ⟨A3,n3,c3,rfl,_,_,_,_⟩:=st.row 0 rfl
   refine AC ?_
   refine BT (EL st 3 (o:=0) (i:=i) rfl rfl rfl (by rw [z2,z7];omega) rfl rfl) rfl rfl fun _ hp st=> ?_
   simp only [z0,z1]at st
   refine AC ?_
   replace st:=st.sel 6 [5,0,1,2,3,4]
   simp only [BU,BV,An]at st
   replace st:=(St.zip_snoc (f:=IK) (b:=some (CC d.now i)) st).sel 5 [1,2,3,4,0]
   simp only [BU,BV,An]at st
   rw [V7 _ hl1 (by omega)]at st
   refine C7 (.slice A3 n3 c3) (DJ rfl rfl rfl) ?_
   rw [List.range_succ,List.map_append]
   exact st
  clear st hcut
  rintro v hp st
  refine AH ?_
  exact Ad (i+1,l1++[v]) (DJ rfl rfl rfl) ⟨by omega,by simp only [z2,zm];omega,st⟩ (by simp only;omega)
 ·obtain rfl:i=n2:=by omega
  rw [List.drop_of_length_le (by omega),List.append_nil]at st
  refine AH ?_
  refine xj st 0 fun hp st=> ?_
  simp only [z0,z1]at st
  refine AB ?_
  replace st:=st.sel 5 [0,1,2,4]
  simp only [BU,BV,An]at st
  replace st:=(St.zip_nil (f:=J2)).2 (st.nilrow 172 2)
  replace st:=st.sel 6 [2,3,4,1,5,0]
  simp only [BU,BV,An]at st
  rw [hn2.symm.trans hsl]at st
  exact St.dkI (ws:=[]) ⟨d.sync_ok hok,by simp only [Dk.sync,z3,List.length_range];exact h4⟩ st
theorem fz (x:Int):∃b:UInt8,Value.int .u8 (IntKind.u8.wrap x)=AN b:=by
 have h:0≤IntKind.u8.wrap x∧IntKind.u8.wrap x<256:=by
  unfold IntKind.wrap
  simp only [IntKind.signed,IntKind.bits,Bool.false_and,Bool.false_eq_true,if_false]
  omega
 generalize IntKind.u8.wrap x=y at h ⊢
 refine ⟨UInt8.ofNat y.toNat,?_⟩
 simp only [AN,Value.int.injEq,true_and,UInt8.toNat_ofNat']
 omega
theorem ZL {B g o n c i:Nat} {f:Int} {l:List UInt8} {F:List AE} {h0:AA} (st:St B h0 h0 (row 5 1 (.slice (some ⟨g,0,none⟩) n c) (l.map AN)::F)) (ho:o+512≤l.length) (hi:i≤4096):
  AG Tryz.prog 93 [.slice (some ⟨g,o,none⟩) 512 512,nV i,.int .u8 f] h0 fun _ h'=>∃e,e.length=512∧St B h0 h' (row 5 1 (.slice (some ⟨g,0,none⟩) n c) ((FT l o e).map AN)::F):=by
 refine Bg Tryz.func93 rfl fun _=>AO ?_
 refine BD (fun s=>512-s.length) (fun s=>[(0,.slice (some ⟨g,o,none⟩) 512 512),(1,nV i),(2,.int .u8 f),(8,nV 512),(9,nV s.length)])
  (fun (s:List UInt8) hp=>s.length≤512∧St B h0 hp (row 5 1 (.slice (some ⟨g,0,none⟩) n c) ((FT l o s).map AN)::F))
  [] (CP rfl rfl rfl rfl rfl) ⟨Nat.zero_le _,by rw [dX];exact st⟩ ?_
 clear st
 rintro s hp ⟨hs,st⟩
 refine AH ?_
 refine AK rfl (fun h=> ?_) (fun h=> ?_)
 ·refine B3 ?_
  refine xa (D0 (m:=7) rfl rfl (by simp only [AI];omega)) ?_
  refine xa (Dm rfl rfl) (AB ?_)
  refine xa (Dm rfl rfl) (AC ?_)
  obtain ⟨x,hx⟩:=fz (IntKind.u8.wrap (f+IntKind.u8.wrap (((7*i:Nat):Int)))+IntKind.u8.wrap ((s.length:Nat):Int))
  refine AT _ hx (AC ?_)
  refine BT (EL st 0 (o:=0) (i:=o+s.length) rfl (by rw [Nat.zero_add];rfl) rfl (by rw [z3,MD (by omega)];omega) rfl rfl) rfl rfl fun _ hp st=> ?_
  simp only [z0]at st
  rw [←List.map_set,dY x (by omega)]at st
  refine AL ?_
  exact Ad (s++[x]) (.cons rfl (.cons rfl (.cons rfl (.cons rfl (.cons (by rw [z2,zm];rfl) (.nil _)))))) ⟨by rw [z2,zm];omega,st⟩ (by rw [z2,zm];omega)
 ·refine AB ?_
  exact ⟨s,by omega,st⟩
theorem W5 {v:Value} {w:Nat×List UInt8}:∀ {ws:List Value} {wl:List (Nat×List UInt8)} {j:Nat},ws[j]? =some v→wl[j]? =some w→(FH ws wl)[j*2]? =some (nV w.1)∧(FH ws wl)[j*2+1]? =some v
 | [],_,_,h,_=>by simp at h
 | _::_,[],_,_,h=>by simp at h
 | v0::ws,w0::wl,0,h1,h2=>by
  simp at h1 h2;subst h1 h2;exact ⟨rfl,rfl⟩
 | v0::ws,w0::wl,j+1,h1,h2=>by
  obtain ⟨a,b⟩:=W5 (j:=j) (by simpa using h1) (by simpa using h2)
  rw [show (j+1)*2=j*2+1+1 by omega]
  exact ⟨by simpa [FH]using a,by simpa [FH]using b⟩
theorem ZC {B q n c:Nat} {f:Int} {A:Option Addr} {ks:List Bool} {d:Dk} {F:List AE} {h0:AA} (st0:St B h0 h0 (Dg q d::F)) (hr:∀h' rs,St B h0 h' (rs++F)→Rd h' A (ks.map Value.bool)) (hl:ks.length=n):
  AG Tryz.prog 50 [.pointer (some ⟨q,0,none⟩),.slice A n c,.int .u8 f] h0 fun _ h'=>∃b,FY d b∧St B h0 h' (Dg q (d.to b)::F):=by
 obtain ⟨⟨hok,h4⟩,vn,vs,vw,ss,ws,st⟩:=St.dk.1 st0
 have hlen:=hok.len
 obtain ⟨A1,n1,c1,rfl,hn,hnc,hcm,_⟩:=st.row 1 rfl
 rw [z3,zf]at hn
 obtain ⟨A2,n2,c2,rfl,hn2,hnc2,_,_⟩:=st.row 2 rfl
 rw [zf]at hn2
 obtain ⟨A3,n3,c3,rfl,hn3,hnc3,hcm3,_⟩:=st.row 3 rfl
 simp only [maxLen]at hcm3
 have hsl:=St.zip_len (st.sel 5 [4])
 have hwl:=St.zip_len (st.sel 6 [5])
 rw [Km hwl]at hn3
 refine Bg Tryz.func50 rfl fun _=>Bq ?_
 refine xc st 0 1 ?_
 refine AJ ?_
 refine BD (fun s=>n2-s.1) (fun s=>[(0,.pointer (some ⟨q,0,none⟩)),(1,.slice A n c),(2,.int .u8 f),(15,.slice A2 n2 c2),(16,nV n2),(17,nV s.1)])
  (fun (s:Nat×List UInt8) hp=>s.1≤n2∧Ku d s.2 s.1∧St B h0 hp (pt q 168 [.slice A1 n1 c1,.slice A2 n2 c2,.slice A3 n3 c3]::row 5 1 (.slice A1 n1 c1) (s.2.map AN)::row 23 1 (.slice A2 n2 c2) ss::row 172 2 (.slice A3 n3 c3) (FH ws d.wait)::C4 IK ss d.safe::C4 J2 ws d.wait::F))
  (0,d.now) (CL rfl rfl rfl rfl rfl rfl) ⟨Nat.zero_le _,⟨rfl,fun _ h=>by omega⟩,st⟩ ?_
 clear st st0
 rintro ⟨i,l⟩ hp ⟨hi,hv,st⟩
 simp only at hi hv st ⊢
 refine AH ?_
 refine AK rfl (fun h=> ?_) (fun h=> ?_)
 ·have hlv:=hv.1
  obtain ⟨g1,_,_,e1,_⟩:=st.row0 1 rfl (by rw [z3];omega)
  cases e1
  obtain ⟨g2,_,_,e2,_,_,_,hr2⟩:=st.row0 2 rfl (by omega)
  cases e2
  have hss:=z9 (show i<ss.length by omega)
  have hsf:=z9 (show i<d.safe.length by omega)
  have stz:=st.sel 6 [4,0,1,2,3,5]
  simp only [BU,BV,An]at stz
  replace stz:=(St.zip_get hss hsf).1 stz
  obtain ⟨b2,o2,e3,hc2⟩:=hr2.at_ (by omega)
  cases e3
  obtain ⟨A5,n5,c5,e5,hcase⟩:∃A5 n5 c5,ss[i]'(by omega)= .slice A5 n5 c5∧((A5=none∧d.safe[i]'(by omega)=none)∨(∃ad s,A5=some ad∧d.safe[i]'(by omega)=some s∧s.length=n5∧n5=512∧Rd hp A5 (s.map AN))):=by
   cases hsi:d.safe[i]'(by omega)with
   | none=>
    rw [hsi]at stz
    exact ⟨none,0,0,(St.and.1 stz).1,.inl ⟨rfl,rfl⟩⟩
   | some s=>
    rw [hsi]at stz
    have h5:=hok.safe s (by rw [←hsi];exact List.getElem_mem _)
    obtain ⟨g5,n5,c5,e5,hn5,_,_,hr5⟩:=stz.row0 0 rfl (by rw [z3];omega)
    rw [z3,zf]at hn5
    exact ⟨_,n5,c5,e5,.inr ⟨_,s,rfl,rfl,hn5,by omega,hr5⟩⟩
  clear stz
  have hci:=hc2 i _ hss
  rw [e5]at hci
  refine AO ?_
  refine xl (hci) rfl (AP ?_)
  refine C6 rfl (fun h=> ?_) (fun h=> ?_)
  ·obtain ⟨rfl,hsn⟩:A5=none∧d.safe[i]'(by omega)=none:=by
    rcases hcase with hc | ⟨ad,s,rfl,_⟩
    ·exact hc
    ·cases h
   refine AF ?_
   refine xk (JG (st.cell 0 (i:=0) rfl rfl) (by omega) hnc (by omega)) rfl ?_
   rintro _ _ ⟨rfl,rfl⟩
   rw [GN (by omega),zf]
   replace st:=st.sel 6 [1,0,2,3,4,5]
   simp only [BU,BV,An]at st
   refine AB ?_
   refine xk (ZL st.here (by omega) (by omega)) rfl ?_
   rintro _ hp2 ⟨e,he,st2⟩
   replace st:=(st.trans st2).sel 6 [1,0,2,3,4,5]
   simp only [BU,BV,An]at st
   clear st2
   have hv:=hv.put (k:=i) hok (by omega) ⟨he,.inr (.inl (by rw [hsf,hsn]))⟩ (m:=i+1) (fun j hj=>by omega)
   refine AL ?_
   exact Ad (i+1,_) (CL rfl rfl rfl rfl rfl rfl) ⟨by omega,hv,st⟩ (by simp only;omega)
  ·obtain ⟨ad,s,rfl,hsn,hs5,rfl,hr5⟩:∃ad s,A5=some ad∧d.safe[i]'(by omega)=some s∧s.length=n5∧n5=512∧Rd hp A5 (s.map AN):=by
    rcases hcase with ⟨rfl,_⟩ | hc
    ·cases h
    ·exact hc
   refine AF ?_
   refine xk (JG (st.cell 0 (i:=0) rfl rfl) (by omega) hnc (by omega)) rfl ?_
   rintro _ _ ⟨rfl,rfl⟩
   rw [GN (by omega),zf]
   refine AC ?_
   refine xv (Ka st 1 (m:=512) (n':=512) rfl hr5 (by rw [z3,hs5]) (Dl _) (by rw [z3,Nat.min_self];omega) rfl rfl rfl rfl) ?_
   rintro _ hp ⟨rfl,st⟩
   simp only [z0,z1,zf,Nat.min_self]at st
   rw [←List.map_take,←List.map_take,←List.map_drop,←List.map_append,←List.map_append,za (l:=s) (by omega),z8,show i*512+512=i*512+s.length by omega]at st
   have hv:=hv.put (k:=i) hok (by omega) ⟨hs5,.inl (by rw [hsf,hsn])⟩ (m:=i+1) (fun j hj=>by omega)
   refine AL ?_
   exact Ad (i+1,_) (CL rfl rfl rfl rfl rfl rfl) ⟨by omega,hv,st⟩ (by simp only;omega)
 ·obtain rfl:i=n2:=by omega
  refine AO ?_
  refine xc st 0 2 ?_
  refine AJ ?_
  have hq:n3=d.wait.length:=by omega
  refine BD (fun s=>n3-s.1) (fun s=>[(0,.pointer (some ⟨q,0,none⟩)),(1,.slice A n c),(39,.slice A3 n3 c3),(40,nV n3),(41,nV s.1)])
   (fun (s:Nat×List UInt8) hp=>s.1≤n3∧Ku d s.2 d.safe.length∧St B h0 hp (pt q 168 [.slice A1 n1 c1,.slice A2 i c2,.slice A3 n3 c3]::row 5 1 (.slice A1 n1 c1) (s.2.map AN)::row 23 1 (.slice A2 i c2) ss::row 172 2 (.slice A3 n3 c3) (FH ws d.wait)::C4 IK ss d.safe::C4 J2 ws d.wait::F))
   (0,l) (CP rfl rfl rfl rfl rfl) ⟨Nat.zero_le _,by rw [←hsl,hn2];exact hv,st⟩ ?_
  clear st hv l
  rintro ⟨j,l⟩ hp ⟨hj,hv,st⟩
  simp only at hj hv st ⊢
  refine AH ?_
  refine AK rfl (fun h=> ?_) (fun h=> ?_)
  ·have hlv:=hv.1
   obtain ⟨w,hw⟩:∃w,d.wait[j]? =some w:=⟨_,z9 (by omega)⟩
   obtain ⟨v,hvj⟩:∃v,ws[j]? =some v:=⟨_,z9 (by omega)⟩
   have hwok:=hok.wait w (List.mem_of_getElem? hw)
   obtain ⟨g1,_,_,e1,_⟩:=st.row0 1 rfl (by rw [z3];omega)
   cases e1
   obtain ⟨g3,_,_,e3,_,_,_,hr3⟩:=st.row0 3 rfl (by rw [Km hwl];omega)
   cases e3
   have stz:=st.sel 6 [5,0,1,2,3,4]
   simp only [BU,BV,An]at stz
   replace stz:=(St.zip_get hvj hw).1 stz
   obtain ⟨g5,n5,c5,rfl,hn5,_,_,hr5⟩:=stz.row0 0 rfl (by rw [z3];omega)
   rw [z3,zf]at hn5
   clear stz
   obtain rfl:n5=512:=by omega
   obtain ⟨b3,o3,e3,hc3⟩:=hr3.at_ (by rw [Km hwl];omega)
   cases e3
   obtain ⟨hg1,hg2⟩:=W5 hvj hw
   refine AL ?_
   refine xa (Bp rfl rfl rfl (by omega)) ?_
   refine AD (Ai (vs:=[nV w.1,.slice (some ⟨g5,0,none⟩) 512 c5]) (by
    intro q u hu
    rcases q with _ | _ | q
    ·cases hu;exact hc3 _ _ hg1
    ·cases hu;exact hc3 _ _ hg2
    ·cases hu) rfl rfl rfl rfl) rfl rfl ?_
   refine xv (CK rfl) ?_
   rintro _ hp ⟨p9,rfl,hnew⟩
   replace st:=st.new hnew
   replace hr5:=hr5.ext hnew.1
   refine AC ?_
   refine xw (us:=[nV w.1,.slice (some ⟨g5,0,none⟩) 512 c5]) st 0 (Pu _ _ _ _) fun hp st=> ?_
   simp only [z0]at st
   have hr5:Rd hp (some ⟨g5,0,none⟩) (w.2.map AN):=by
    have stz:=st.sel 7 [6,0,1,2,3,4,5]
    simp only [BU,BV,An]at stz
    replace stz:=(St.zip_get hvj hw).1 stz
    exact (stz.rdS 0 rfl).2
   refine AP ?_
   refine Am 50 rfl (fun h=> ?_) (fun h=> ?_)
   ·obtain ⟨bA,oA,rfl,hcA⟩:=(hr _ [_,_,_,_,_,_,_] st).at_ (by rw [z3];omega)
    have hkj:=hcA j (.bool (ks[j]'(by omega))) (by rw [zr,z9 (by omega)];rfl)
    refine AF ?_
    refine xl (hkj) rfl (AB ?_)
    refine C6 rfl (fun h=> ?_) (fun h=> ?_)
    ·refine GK (Ck [(3,.grow)]) [0,1,2,4,5,3,6] (by kernel_rfl) (by kernel_rfl) rfl (AB ?_)
     refine xc st 0 0 ?_
     refine AC ?_
     refine xc st 0 1 ?_
     refine BW (CT (JG (st.cell 1 (i:=0) rfl rfl) (by omega) hnc (by omega)) rfl (by kernel_rfl)) rfl rfl rfl (fun _ _ h=>h.2▸BC.refl _ _) ?_
     rintro _ _ ⟨rfl,rfl⟩
     rw [GN (by omega),zf]
     refine xv (Ka st 2 (m:=512) (n':=512) rfl hr5 (by rw [z3,hwok.2]) (Dl _) (by rw [z3,Nat.min_self];omega) rfl rfl rfl rfl) ?_
     rintro _ hp ⟨rfl,st⟩
     simp only [z0,z1,zf,Nat.min_self]at st
     rw [←List.map_take,←List.map_take,←List.map_drop,←List.map_append,←List.map_append,za (l:=w.2) (by omega),z8,show w.1*512+512=w.1*512+w.2.length by omega]at st
     have hv:=hv.put hok hwok.1 ⟨hwok.2,.inr (.inr (List.mem_of_getElem? hw))⟩ (m:=d.safe.length) (fun j hj=> .inl hj)
     refine AL ?_
     exact Ad (j+1,_) (CP rfl rfl rfl rfl rfl) ⟨by omega,hv,st.tail⟩ (by simp only;omega)
    ·refine AL ?_
     exact Ad (j+1,_) (CP rfl rfl rfl rfl rfl) ⟨by omega,hv,st.tail⟩ (by simp only;omega)
   ·refine B3 ?_
    exact Ad (j+1,_) (CP rfl rfl rfl rfl rfl) ⟨by omega,hv,st.tail⟩ (by simp only;omega)
  ·have hmk:(Dk.mk l d.safe d.wait).ok:=⟨by rw [hv.1];exact hlen,hok.safe,hok.wait⟩
   replace st:St B h0 hp (Dg q ⟨l,d.safe,d.wait⟩::F):=St.dkI ⟨hmk,h4⟩ st
   refine AF ?_
   refine xk (Sa st.here) rfl ?_
   rintro _ hp5 st2
   replace st:=st.trans st2
   refine AB ?_
   exact ⟨l,⟨hv.1,fun k hk=>hv.2 k hk⟩,st⟩
end Go.Bn
end

section
namespace Go.Bn
open Go Proofs
structure GG where
  vd:Value
  vn:Value
  vs:Value
  vw:Value
  v7:Value
  i5:Int
  i6:Int
  qs:List Nat
  rl:List Int
@[reducible] def AM (q:Nat):Value:= .pointer (some ⟨q,0,none⟩)
@[reducible] def GG.cs (x:GG) (cap:Nat):List Value:=[x.vd,x.vn,x.vs,x.vw,nV cap,.int .i64 x.i5,.int .i64 x.i6,x.v7]
def BF (p cap:Nat) (f:Fs):AE:=Cb fun (x:GG)=>Fb (f.quiet=true→x.rl=[])
  (CD (CD (CD (CD (CD (CD (pt p 63 (x.cs cap)) (B6 x.vn f.now)) (B6 x.vs f.safe)) (row 176 3 x.vw (DF f.wait))) (row 113 1 x.vd (x.qs.map AM))) (C4 Dg x.qs f.dk)) (row 3 1 x.v7 (x.rl.map (Value.int .i64))))
@[reducible] def Zo (p cap:Nat) (f:Fs) (x:GG):List AE:=[pt p 63 (x.cs cap),B6 x.vn f.now,B6 x.vs f.safe,row 176 3 x.vw (DF f.wait),row 113 1 x.vd (x.qs.map AM),C4 Dg x.qs f.dk,row 3 1 x.v7 (x.rl.map (Value.int .i64))]
theorem St.fs {B p cap:Nat} {h0 hp:AA} {f:Fs} {F:List AE} (st:St B h0 hp (BF p cap f::F)):∃x:GG,(f.quiet=true→x.rl=[])∧St B h0 hp (pt p 63 (x.cs cap)::B6 x.vn f.now::B6 x.vs f.safe::Bn.row 176 3 x.vw (DF f.wait)::Bn.row 113 1 x.vd (x.qs.map AM)::C4 Dg x.qs f.dk::Bn.row 3 1 x.v7 (x.rl.map (Value.int .i64))::F):=by
 obtain ⟨x,st⟩:=St.ex.1 st
 obtain ⟨h,st⟩:=St.and.1 st
 exact ⟨x,h,St.star.1 (St.star.1 (St.star.1 (St.star.1 (St.star.1 (St.star.1 st)))))⟩
theorem St.fsI {B p cap:Nat} {h0 hp:AA} {f:Fs} {F:List AE} {vd vn vs vw v7:Value} {i5 i6:Int} {qs:List Nat} {rl:List Int} (h:f.quiet=true→rl=[]) (st:St B h0 hp (pt p 63 [vd,vn,vs,vw,nV cap,.int .i64 i5,.int .i64 i6,v7]::B6 vn f.now::B6 vs f.safe::Bn.row 176 3 vw (DF f.wait)::Bn.row 113 1 vd (qs.map AM)::C4 Dg qs f.dk::Bn.row 3 1 v7 (rl.map (Value.int .i64))::F)):St B h0 hp (BF p cap f::F):=
 St.ex.2 ⟨⟨vd,vn,vs,vw,v7,i5,i6,qs,rl⟩,St.and.2 ⟨h,St.star.2 (St.star.2 (St.star.2 (St.star.2 (St.star.2 (St.star.2 st)))))⟩⟩
theorem Kp {B p cap:Nat} {f:Fs} {F:List AE} {h0:AA} (st0:St B h0 h0 (BF p cap f::F)):
  AG Tryz.prog 169 [AM p] h0 fun v h'=>(v=nV 0∨v=nV 10∧f.quiet=false)∧St B h0 h' (BF p cap f::F):=by
 obtain ⟨⟨vd,vn,vs,vw,v7,i5,i6,qs,rl⟩,hq,st⟩:=st0.fs
 simp only [GG.cs]at hq st
 obtain ⟨A,n,c,rfl,hn,hnc,hcm,_⟩:=st.row 6 rfl
 rw [z3,zf]at hn
 simp only [maxLen]at hcm
 refine BE Tryz.func169 rfl fun _=>AJ ?_
 refine Hx rfl (fun _ _ _ hh=>hh) (B3 ?_)
 refine xc st 0 5 ?_
 refine AF ?_
 refine xj st 0 fun hp st=> ?_
 simp only [z0,z1]at st
 refine B3 ?_
 refine xc st 0 7 ?_
 refine AJ ?_
 obtain ⟨j5,hj5⟩:∃j5,IntKind.i64.wrap (i5+1)=j5:=⟨_,rfl⟩
 rw [hj5]at st
 refine BD (fun s=>n-s) (fun s=>[(0,AM p),(3,nV 0),(18,.slice A n c),(19,nV n),(20,nV s)])
  (fun (s:Nat) hp=>s≤n∧St B h0 hp (pt p 63 [vd,vn,vs,vw,nV cap,.int .i64 j5,.int .i64 i6,.slice A n c]::B6 vn f.now::B6 vs f.safe::row 176 3 vw (DF f.wait)::row 113 1 vd (qs.map AM)::C4 Dg qs f.dk::row 3 1 (.slice A n c) (rl.map (Value.int .i64))::F))
  0 (CP rfl rfl rfl rfl rfl) ⟨Nat.zero_le _,st⟩ ?_
 clear st st0
 rintro s hp ⟨hs,st⟩
 refine AH ?_
 refine AK rfl (fun h=> ?_) (fun h=> ?_)
 ·obtain ⟨g,_,_,e1,_,_,_,hrd⟩:=st.row0 6 rfl (by rw [z3];omega)
  cases e1
  obtain ⟨_,_,e2,hcs⟩:=hrd.at_ (by rw [z3];omega)
  cases e2
  have hcs:=hcs s (.int .i64 (rl[s]'(by omega))) (by rw [zr,z9 (by omega)];rfl)
  refine AL ?_
  refine xl (hcs) rfl (AP ?_)
  refine xc st 0 5 ?_
  refine AB ?_
  refine AK rfl (fun h=> ?_) (fun h=> ?_)
  ·refine AH ?_
   refine xc st 0 6 ?_
   refine AF ?_
   refine xj st 0 fun hp st=> ?_
   simp only [z0,z1]at st
   refine By ?_
   refine ⟨.inr ⟨rfl,?_⟩,St.fsI hq st⟩
   cases hqq:f.quiet with
   | false=>rfl
   | true=>have:=hq hqq;rw [this]at hn;simp at hn;omega
  ·refine AL ?_
   exact Ad (s+1) (CP rfl rfl rfl rfl rfl) ⟨by omega,st⟩ (by omega)
 ·refine AO ?_
  exact ⟨.inl rfl,St.fsI hq st⟩
theorem OO {p n c id q:Nat} {A:Option Addr} {qs:List Nat} {h0:AA} (hc:Az h0 ⟨p,0,none⟩=some (.slice A n c)) (hr:Rd h0 A (qs.map AM)) (hl:qs.length=n) (hq:qs[id]? =some q):
  AG Tryz.prog 83 [AM p,nV id] h0 fun v h'=>v=AM q∧h0=h':=by
 have hid:=(zc.1 hq).1
 obtain ⟨bb,o,rfl,hcs⟩:=hr.at_ (by rw [z3];omega)
 have hci:=hcs id (AM q) (by rw [zr,hq];rfl)
 refine Ac Tryz.func83 rfl fun _=>By ?_
 refine AT (.bool false) (congrArg Value.bool (zu (by omega))) (AL ?_)
 refine xl (hc) rfl (AB ?_)
 refine AT (.bool false) (congrArg Value.bool (zu (by omega))) (Aj ?_)
 refine xl (hc) rfl (AB ?_)
 refine xl (hci) rfl (AF ?_)
 exact ⟨rfl,rfl⟩
theorem St.fdisk {B p cap id:Nat} {h0 hp:AA} {f:Fs} {d:Dk} {x:GG} {F:List AE} (st:St B h0 hp (Zo p cap f x++F)) (hd:f.dk[id]? =some d):
  ∃q A n c,x.vd= .slice A n c∧x.qs[id]? =some q∧x.qs.length=n∧Rd hp A (x.qs.map AM)∧St B h0 hp (Dg q d::MS Dg x.qs f.dk id::pt p 63 (x.cs cap)::B6 x.vn f.now::B6 x.vs f.safe::Bn.row 176 3 x.vw (DF f.wait)::Bn.row 113 1 x.vd (x.qs.map AM)::Bn.row 3 1 x.v7 (x.rl.map (Value.int .i64))::F):=by
 obtain ⟨A,n,c,e,hn,_,_,hr⟩:=st.row 4 rfl
 rw [z3,zf]at hn
 have hl:=St.zip_len (st.sel 6 [5])
 have hid:=(zc.1 hd).1
 obtain ⟨q,hq⟩:∃q,x.qs[id]? =some q:=⟨_,z9 (by omega)⟩
 exact ⟨q,A,n,c,e,hq,hn,hr,(St.zip_get hq hd).1 (st.sel 7 [5,0,1,2,3,4,6])⟩
theorem St.fdisk' {B p cap id q:Nat} {h0 hp:AA} {f:Fs} {d':Dk} {x:GG} {F:List AE} (hx:f.quiet=true→x.rl=[]) (hq:x.qs[id]? =some q) (hid:id<f.dk.length) (st:St B h0 hp (Dg q d'::MS Dg x.qs f.dk id::pt p 63 (x.cs cap)::B6 x.vn f.now::B6 x.vs f.safe::Bn.row 176 3 x.vw (DF f.wait)::Bn.row 113 1 x.vd (x.qs.map AM)::Bn.row 3 1 x.v7 (x.rl.map (Value.int .i64))::F)):St B h0 hp (BF p cap (f.setD id d')::F):=by
 have hqs:=(zc.1 hq).1
 have st2:=St.zip_set hqs hid st
 rw [List.set_getElem?_self' hq]at st2
 exact St.fsI (f:=f.setD id d') hx (st2.sel 7 [1,2,3,4,5,0,6])
theorem Fs.setD_same {f:Fs} {id:Nat} {d:Dk} (hd:f.dk[id]? =some d):f.setD id d=f:=by
 unfold Fs.setD;rw [List.set_getElem?_self' hd]
theorem XI {B p cap id:Nat} {f:Fs} {d:Dk} {F:List AE} {h0:AA} (st0:St B h0 h0 (BF p cap f::F)) (hd:f.dk[id]? =some d):
  AG Tryz.prog 46 [AM p,nV id] h0 fun v h'=>v=nV d.safe.length∧h0=h':=by
 obtain ⟨x,hx,st⟩:=st0.fs
 obtain ⟨q,A,n,c,e,hq,hn,hr,st2⟩:=St.fdisk (F:=F) st hd
 have hc:=st.cell 0 (i:=0) rfl rfl
 rw [e]at hc
 obtain ⟨⟨hok,h4⟩,vn,vs,vw,ss,ws,st3⟩:=St.dk.1 st2
 obtain ⟨A1,n1,c1,rfl,hn1,_,_,_⟩:=st3.row 1 rfl
 rw [z3,zf]at hn1
 have hlen:=hok.len
 refine Ac Tryz.func46 rfl fun _=>AP ?_
 refine xk (OO hc hr hn hq) rfl ?_
 rintro _ _ ⟨rfl,rfl⟩
 refine xk (JH (st3.cell 0 (i:=0) rfl rfl) (by omega)) rfl ?_
 rintro _ _ ⟨rfl,rfl⟩
 refine AF ?_
 exact ⟨by rw [show n1/512=d.safe.length by omega];rfl,rfl⟩
theorem RC {B p cap id a m:Nat} {f:Fs} {d:Dk} {F:List AE} {h0:AA} (st0:St B h0 h0 (BF p cap f::F)) (hd:f.dk[id]? =some d) (ha:a+m≤d.now.length):
  AG Tryz.prog 45 [AM p,nV id,nV a,nV m] h0 fun v h'=>∃w,v=Al [w,nV 0]∧St h0.size h0 h' [row 5 1 w (((d.now.drop a).take m).map AN)]:=by
 obtain ⟨x,hx,st⟩:=st0.fs
 obtain ⟨q,A,n,c,e,hq,hn,hr,st2⟩:=St.fdisk (F:=F) st hd
 have hc:=st.cell 0 (i:=0) rfl rfl
 rw [e]at hc
 obtain ⟨⟨hok,h4⟩,vn,vs,vw,ss,ws,st3⟩:=St.dk.1 st2
 obtain ⟨A1,n1,c1,rfl,hn1,hnc1,_,hr1⟩:=st3.row 1 rfl
 rw [z3,zf]at hn1
 have hlen:=hok.len
 refine Gx Tryz.func45 rfl fun _=>Aj ?_
 refine xk (OO hc hr hn hq) rfl ?_
 rintro _ _ ⟨rfl,rfl⟩
 refine AB ?_
 refine xk (ZK (st3.cell 0 (i:=0) rfl rfl) hr1 hn1 (by omega) hnc1 (by omega)) rfl ?_
 rintro _ hp2 ⟨w,rfl,st4⟩
 refine AL ?_
 exact ⟨w,rfl,st4⟩
theorem OP {B p cap:Nat} {f:Fs} {k:List UInt8} {F:List AE} {h0:AA} (st0:St B h0 h0 (BF p cap f::F)):
  AG Tryz.prog 44 [AM p,AU k] h0 fun v h'=>v=(match f.now k with | some i=>Al [nV i,nV 0] | none=>Al [nV 0,nV 7])∧h0=h':=by
 obtain ⟨x,hx,st⟩:=st0.fs
 refine Ac Tryz.func44 rfl fun _=>Fv ?_
 refine xk (bf (safe:=fun _=>none) st) rfl ?_
 rintro _ _ ⟨rfl,rfl⟩
 refine By ?_
 refine C6 rfl (fun h=> ?_) (fun h=> ?_)
 ·refine AL ?_
  cases hk:f.now k with
  | none=>exact ⟨rfl,rfl⟩
  | some i=>rw [hk]at h;cases h
 ·refine AP ?_
  cases hk:f.now k with
  | none=>rw [hk]at h;cases h
  | some i=>exact ⟨rfl,rfl⟩
theorem RB {B p cap:Nat} {f:Fs} {F:List AE} {h0:AA} (st0:St B h0 h0 (BF p cap f::F)):
  AG Tryz.prog 12 [AM p] h0 fun v h'=>(∃a b:Int,v=Al [.int .i64 a,.int .i64 b])∧h0=h':=by
 obtain ⟨x,hx,st⟩:=st0.fs
 refine BE Tryz.func12 rfl fun _=>FX ?_
 refine xc st 0 5 ?_
 refine AF ?_
 refine xc st 0 6 ?_
 refine AJ ?_
 exact ⟨⟨_,_,rfl⟩,rfl⟩
theorem iD {B p cap n c:Nat} {A:Addr} {vs:List Int} {f:Fs} {F:List AE} {h0:AA} (st0:St B h0 h0 (BF p cap f::F)) (hr:Rd h0 (some A) (vs.map (Value.int .i64))) (hl:vs.length=n) (hn:n≤1048576):
  AG Tryz.prog 48 [AM p,.slice (some A) n c] h0 fun v h'=>St B h0 h' (BF p cap {f with quiet:=false}::F):=by
 obtain ⟨x,hx,st⟩:=st0.fs
 refine Ac Tryz.func48 rfl fun _=>Aj ?_
 refine xk (On hr hl (by omega)) rfl ?_
 rintro v1 hp st1
 replace st:=st.join st1
 simp only [z5,z4]at st
 obtain ⟨_,_,_,rfl,_⟩:=st.row 0 rfl
 refine AB ?_
 refine xj (i:=7) st 1 fun hp st=> ?_
 simp only [z0,z1]at st
 refine AB ?_
 exact St.fsI (f:={f with quiet:=false}) (fun h=>by cases h) (st.sel 8 [1,2,3,4,5,6,0])
end Go.Bn
end

section
namespace Go.Bn
open Go
theorem Yb (l:List UInt8):byteCells (str l)=l.map AN:=by
 unfold byteCells
 rw [←List.map_congr_left (f:=AN) (g:=fun b:UInt8=>Value.int .u8 b.toNat) (fun _ _=>rfl)]
 congr 1
theorem aC {P:Program} {t:TypeId} (h:Ed P t=true):P.underlying t=some .string:=by
 unfold Ed at h
 split at h
 ·assumption
 ·cases h
section
variable {P:Program} {E:Au} {hp:AA} {cl:Ca} {d:Option Tmp} {ty:TypeId} {pos:String} {af:Array Edge} {g:Option (Nat×Bool)}
variable {x y z:Operand} {t t':TypeId}
theorem eG {e b:Nat} {tx:TypeId} {zv v:Value} {vs:List Value} {l:List UInt8} {S:Nat→Prop} {w:World} (ht:DA P t=some (e,1,b,[zv])) (hk:P.underlying tx=some .string) (hr:Hv e 1 v vs w.heap S)
  (hb0:0<b) (hb:(vs.length+l.length)*b≤140737488355328):
  ∃v' w',(Builtin.append_ #[t,tx] ty #[v,.string (str l)]).run P w= .ok v' w'∧B8 w w'∧HR (row e 1 v vs) w.heap (row e 1 v' (vs++l.map AN)) w'.heap:=by
 obtain ⟨i,z,hu,hi,hz,hs,hbz,hzc⟩:=FW ht
 subst hbz
 have hzs':z.cells.size=1:=by rw [hzc];rfl
 have hlen:vs.length+l.length≤140737488355328:=zw (Nat.le_mul_of_pos_right _ hb0) hb
 have hsrc:Src P i.size tx (.string (str l)) l.length (l.map AN) w:=by
  have:=Src.ofString (P:=P) w hk (str l)
  rw [Yb,HO]at this
  rw [hs];exact this
 have h1:∀u∈l.map AN,Value.one u=true:=by intro u hu;obtain ⟨_,_,rfl⟩:=List.mem_map.1 hu;rfl
 have fresh:∀ (n old:Nat),vs.length=n→
   HR (row e 1 v vs) w.heap (row e 1 (.slice (some ⟨w.heap.size,0,none⟩) (n+l.length) (grownCap w (n+l.length) old e)) (vs++l.map AN))
    (w.heap.push (.cells ((vs++l.map AN).toArray++Builtin.zeroCells z.cells (grownCap w (n+l.length) old e - (n+l.length))) e)):=by
  intro n old hvn
  have hge:=grownCap_ge w (n+l.length) old e
  have hcm:=grownCap_le_maxLen w (n+l.length) old e (by simp only [maxLen];omega)
  refine ⟨(Fg _ _).size,fun S hS=>⟨fun k=>k=w.heap.size,.inr ⟨w.heap.size,n+l.length,_,_,(0,0),rfl,Jn _ _,hge,hcm,?_,?_,?_,?_,fun _=>Iff.rfl⟩,fun k hk=> .inr (by omega),fun k hk _=>(Fg _ _).blk k hk⟩⟩
  ·simp only [Array.size_append,List.size_toArray,XJ,hzs',z2,z3,hvn,zf]
   omega
  ·simp only [Array.toList_append,zf]
   rw [←hvn,show vs.length+l.length=(vs++l.map AN).length by simp]
   exact List.take_left
  ·simp [hvn]
  ·exact .inl rfl
 rcases hr with ⟨rfl,rfl,hS0⟩ | ⟨g,n,cap,cur,fr,rfl,h2,h3,h4,h5,h6,h7,h8,hS⟩
 ·by_cases hm:l.length=0
  ·have hne:l=[]:=List.eq_nil_of_length_eq_zero hm
   subst hne
   refine ⟨.slice none 0 0,w,?_,B8.refl w,Nat.le_refl _,fun S hS=>⟨S,by simpa using hS,fun k hk=> .inl hk,fun _ _ _=>rfl⟩⟩
   have e1:(str []).size=0:=rfl
   simp [Builtin.append_,run_underlying hu,run_underlying hk,sizeOf,typeInfo,hi,Builtin.lenOf,Builtin.firstCells,e1]
  ·have hf:=fresh 0 0 rfl
   simp only [Nat.zero_add,z4]at hf
   refine ⟨_,_,run_append_grow_src (P:=P) w t tx ty e i z hu hi hz none 0 0 [] (run_firstCells_none _ _ _ _ _) (.string (str l)) l.length (l.map AN) hsrc (by omega) (by omega) ?_,⟨rfl,rfl,rfl⟩,by rw [Nat.zero_add,z4];exact hf⟩
   simp only [Nat.zero_add]
   rw [nextslicecap_zero (by omega)]
   simp at hb;omega
 ·simp only [zf]at h5 h6 h7
  by_cases hroom:n+l.length≤cap
  ·obtain ⟨w',hst,hinv,hsz',hoth,hnew⟩:=IQ (P:=P) (p:=g) (o:=n*i.size) (e:=e) (fr:=fr) (l.map AN) 0 cur w h1 h2 (by rw [hs];simp;omega) h8
   refine ⟨.slice (some ⟨g,0,none⟩) (n+l.length) cap,w',?_,hinv,by rw [hsz'];exact Nat.le_refl _,fun S' hS'=> ?_⟩
   ·simp [Builtin.append_,run_underlying hu,run_underlying hk,sizeOf,typeInfo,hi,hsrc.len,hroom,hsrc.cells,E6,hst]
   ·have hSg:∀k,S' k↔k=g:=by
     rcases hS' with ⟨hh,_⟩ | ⟨g',n',cap',cur',fr',hh,_,_,_,_,_,_,_,hS''⟩
     ·cases hh
     ·cases hh;exact hS''
    simp only [Nat.add_zero,hs,zf]at hnew
    refine ⟨S',.inr ⟨g,n+l.length,cap,_,fr,rfl,hnew,hroom,h4,?_,?_,?_,?_,hSg⟩,fun k hk=> .inl hk,fun k _ hk=>hoth k (fun h=>hk ((hSg k).2 h))⟩
    ·simp only [List.size_toArray,z2,z6,z7,Array.length_toList,z3]
     omega
    ·rw [h6,zf,←h7,show vs.length+l.length=(vs++l.map AN).length by simp]
     exact List.take_left
    ·simp [h7]
    ·have:((cur.toList.take n++l.map AN++cur.toList.drop (n+(l.map AN).length)).toArray).size=cur.size:=by
      simp only [List.size_toArray,z2,z6,z7,Array.length_toList,z3]
      omega
     rw [this];exact h8
  ·have holds:∀ (j:Nat) (u:Value),vs[j]? =some u→w.drew.cell? ((⟨g,0,none⟩:Addr).add j)=some u:=by
    intro j u hu'
    rw [E6,Ol]
    show Az w.heap _=_
    simp only [Az,h2,Nat.zero_add]
    rw [←h6,List.getElem?_take]at hu'
    split at hu'
    ·simpa using hu'
    ·cases hu'
   have hf:=fresh n cap h7
   exact ⟨_,_,run_append_grow_src (P:=P) w t tx ty e i z hu hi hz (some ⟨g,0,none⟩) n cap vs (run_firstCells_some w.drew i.size n ⟨g,0,none⟩ n cap vs (by rw [hs,h7,zf]) holds) (.string (str l)) l.length (l.map AN) hsrc (by omega) (by omega) (growslice_fits (by omega) (by rw [←h7];exact hb)),⟨rfl,rfl,rfl⟩,hf⟩
theorem P1 {e b:Nat} {t2:TypeId} {zv v:Value} {vs:List Value} {l:List UInt8} {B:Nat} {h0:AA} {rs:List AE} (st:St B h0 hp rs) (j:Nat) (hj:rs[j]? =some (row e 1 v vs)) (hb:(vs.length+l.length)*b≤140737488355328)
  (hx:ev E x=some v) (hy:ev E y=some (.string (str l))) (ht:DA P t=some (e,1,b,[zv])) (hs:Ed P t2=true) (hb0:Nat.blt 0 b=true) {ts:Array TypeId} (hts:ts= #[t,t2]):
  Bd P ⟨d,.call ⟨.builtin .append,#[x,y],ts⟩,ty,pos,af,g⟩ E hp (fun v' hp'=>St B h0 hp' (rs.set j (row e 1 v' (vs++l.map AN)))):=by
 intro n a w ho hw K hK
 subst hw hts
 obtain ⟨S,hS,_⟩:=st.at_ hj
 obtain ⟨v',w',hrun,hinv,hupd⟩:=eG (ty:=ty) ht (aC hs) hS (by simpa [Nat.blt_eq]using hb0) hb
 have hrun':(execOp a.eval ⟨d,.call ⟨.builtin .append,#[x,y],#[t,t2]⟩,ty,pos,af,g⟩).run P w= .ok (.value v') w':=by
  simp [execOp,resolve,ho.eval hx,ho.eval hy,invoke,builtin,hrun]
 simp only [Oper.wp,hrun',Oper.upon]
 exact hK v' w' hinv (st.upd hj hupd)
end
end Go.Bn
end

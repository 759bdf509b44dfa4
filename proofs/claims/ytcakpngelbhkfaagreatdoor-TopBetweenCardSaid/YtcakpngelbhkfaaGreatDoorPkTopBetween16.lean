/- Packed texts of a claim: what its theorem uses, joined. -/
import Derived.Test.YtcakpngelbhkfaaGreatDoorPkTopBetween15
set_option maxRecDepth 100000
set_option maxHeartbeats 4000000
set_option linter.unusedVariables false
set_option linter.unusedSimpArgs false
set_option linter.unusedSectionVars false
set_option linter.defProp false
section
namespace Go.Bn
open Go Proofs
theorem Qp {s:List UInt8} {i:Nat} {b:UInt8} (h:s[i]? =some b):(str s)[i]? =some b:=by
 obtain ⟨hi,rfl⟩:=zc.1 h
 rw [getElem?_pos (str s) i (show i < (str s).size by rw [HO];exact hi)];rfl
theorem Z1 (s p:List UInt8) (h0:AA):AG Tryz.prog 289 [AU s,AU p] h0 fun v h'=>(∃b,v= .bool b∧(b=true→p.length≤s.length))∧h0=h':=by
 refine Ac Tryz.func289 rfl fun _=>By ?_
 refine Am 10 rfl (fun h=> ?_) (fun h=> ?_)
 ·refine AF ?_
  refine xa (Ub rfl rfl rfl (by omega)) (AC ?_)
  refine xa (GS rfl rfl) (AJ ?_)
  exact ⟨⟨_,rfl,fun _=>by omega⟩,rfl⟩
 ·refine BP ?_
  exact ⟨⟨false,rfl,fun hh=>by cases hh⟩,rfl⟩
theorem ZA (s p:List UInt8) (h0:AA):AG Tryz.prog 260 [AU s,AU p] h0 fun v h'=>(∃r b,v=Al [AU r,.bool b])∧h0=h':=by
 refine Ac Tryz.func260 rfl fun _=>BP ?_
 refine xk (Z1 s p h0) rfl ?_
 rintro _ _ ⟨⟨b,rfl,hb⟩,rfl⟩
 refine AB ?_
 refine C6 rfl (fun h=> ?_) (fun h=> ?_)
 ·refine AO ?_
  exact ⟨⟨_,_,rfl⟩,rfl⟩
 ·have hb:=hb (by cases b <;> first | rfl | cases h)
  refine AL ?_
  refine xa (Pz rfl rfl rfl hb) (AJ ?_)
  exact ⟨⟨_,_,rfl⟩,rfl⟩
theorem ZB (s p:List UInt8) (h0:AA):AG Tryz.prog 233 [AU s,AU p] h0 fun v h'=>(∃r b,v=Al [AU r,.bool b])∧h0=h':=by
 refine Ac Tryz.func233 rfl fun _=>Aj ?_
 refine xk (ZA s p h0) rfl ?_
 rintro _ _ ⟨⟨r,b,rfl⟩,rfl⟩
 refine AL ?_
 exact ⟨⟨_,_,rfl⟩,rfl⟩
theorem bG (d s:List UInt8) (h0:AA):AG Tryz.prog 200 [AU d,AU s] h0 fun v h'=>(∃r b,v=Al [AU r,.bool b]∧(d=[]→DU s→b=true))∧AV h0 h':=by
 refine Ac Tryz.func200 rfl fun _=>BP ?_
 refine xk (Ja s h0) rfl ?_
 rintro _ hp1 ⟨rfl,hx1⟩
 refine AF ?_
 refine AK rfl (fun h=> ?_) (fun h=> ?_)
 ·refine AL ?_
  exact ⟨⟨_,_,rfl,fun _ e=>absurd e h⟩,hx1⟩
 ·refine AF ?_
  refine xa (GS (b:=[]) rfl rfl) (AB ?_)
  refine AK rfl (fun h=> ?_) (fun h=> ?_)
  ·refine AO ?_
   exact ⟨⟨_,_,rfl,fun _ _=>rfl⟩,hx1⟩
  ·have hd:=h
   refine AF ?_
   refine xk (Ja d _) rfl ?_
   rintro _ hp2 ⟨rfl,hx2⟩
   refine AF ?_
   refine AK rfl (fun h=> ?_) (fun h=> ?_)
   ·refine AL ?_
    exact ⟨⟨_,_,rfl,fun e=>absurd e hd⟩,hx1.trans hx2⟩
   ·have hok:DU d:=Classical.byContradiction fun e=>h e
    refine AL ?_
    refine xa (Lc (b:=[47]) rfl rfl (by have:=hok.1;simp only [zm];omega)) ?_
    refine xk (ZB s (d++[47]) _) rfl ?_
    rintro _ _ ⟨⟨r,b,rfl⟩,rfl⟩
    refine AL ?_
    exact ⟨⟨_,_,rfl,fun e=>absurd e hd⟩,hx1.trans hx2⟩
theorem bO (d s:List UInt8) (h0:AA):AG Tryz.prog 152 [AU d,AU s] h0 fun v h'=>(∃b,v= .bool b∧(d=[]→DU s→b=true))∧AV h0 h':=by
 refine Ac Tryz.func152 rfl fun _=>AP ?_
 refine xk (bG d s h0) rfl ?_
 rintro _ hp1 ⟨⟨r,b,rfl,hb⟩,hx1⟩
 refine By ?_
 exact ⟨⟨_,rfl,hb⟩,hx1⟩
theorem Y5 {s:List UInt8} {f i:Nat} (h:((s.drop f).take (i-f)).count 47=0) (hfi:f≤i) (hi:i<s.length) {b:UInt8} (hb:s[i]? =some b) (hne:b≠47):((s.drop f).take (i+1-f)).count 47=0:=by
 rw [show i+1-f=(i-f)+1 by omega,List.take_add_one,List.count_append,h,List.getElem?_drop,show f+(i-f)=i by omega,hb]
 simp [hne]
theorem cy {s:List UInt8} (hs:s.length≤64) (h0:AA):AG Tryz.prog 16 [AU s] h0 fun v h'=>St h0.size h0 h' [row 9 1 v ((C9 s).map AU)]:=by
 refine BE Tryz.func16 rfl fun _=>FX ?_
 have st:=(St.start h0).nilrow 9 1
 refine BD (fun x=>s.length-x.1) (fun x=>[(0,AU s),(3,x.2.2.2),(4,nV x.2.1),(5,nV x.1)])
  (fun (x:Nat×Nat×List (List UInt8)×Value) hp=>x.2.1≤x.1∧x.1≤s.length∧((s.drop x.2.1).take (x.1-x.2.1)).count 47=0∧C9 s=x.2.2.1++C9 (s.drop x.2.1)∧x.2.2.1.length≤x.1∧St h0.size h0 hp [row 9 1 x.2.2.2 (x.2.2.1.map AU)])
  (0,0,[],.slice none 0 0) (Bt rfl rfl rfl rfl) ⟨Nat.le_refl _,Nat.zero_le _,rfl,rfl,Nat.le_refl _,st⟩ ?_
 clear st
 rintro ⟨i,f,out,v⟩ hp ⟨hfi,hi,hcnt,hpr,hol,st⟩
 simp only at hfi hi hcnt hpr hol st ⊢
 refine AP ?_
 refine AK rfl (fun h=> ?_) (fun h=> ?_)
 ·have hil:i<s.length:=by omega
  obtain ⟨b,hb⟩:∃b,s[i]? =some b:=⟨_,z9 hil⟩
  refine AO ?_
  refine xa (Jf (b:=b) rfl rfl rfl (Qp hb)) (AB ?_)
  refine AK rfl (fun h=> ?_) (fun h=> ?_)
  ·have hb47:b=47:=UInt8.toNat_inj.1 (by show b.toNat=47;omega)
   subst hb47
   refine AL ?_
   refine xa (cD rfl rfl rfl rfl hfi (by omega)) ?_
   rw [List.drop_take]
   refine xv (Ep rfl rfl rfl) ?_
   rintro _ hp ⟨A,rfl,hx,hrd⟩
   have st:=st.ext hx
   refine BN (BY st 0 rfl (hrd) (rfl) (by simp [Value.one]) (by simp;omega) rfl rfl rfl rfl rfl rfl rfl) rfl rfl rfl fun v hp st=> ?_
   simp only [z0,z1]at st
   rw [show out.map AU++[AU ((s.drop f).take (i-f))]=(out++[(s.drop f).take (i-f)]).map AU by rw [List.map_append];rfl]at st
   refine B3 ?_
   refine Ad (i+1,i+1,out++[(s.drop f).take (i-f)],v) (Bt rfl rfl rfl rfl) ⟨Nat.le_refl _,by simp only;omega,by simp,?_,by simp only [z2,zm];omega,st⟩ (by simp only;omega)
   have e:s.drop f=(s.drop f).take (i-f)++47::s.drop (i+1):=by
    have e2:(s.drop f).drop (i-f)=47::s.drop (i+1):=by
     rw [List.drop_drop,show f+(i-f)=i by omega,List.drop_eq_getElem_cons hil]
     rw [z9 hil,Option.some.injEq]at hb
     rw [hb]
    rw [←e2,List.take_append_drop]
   have e3:=QB (r:=s.drop (i+1)) hcnt
   rw [←e]at e3
   rw [hpr,e3,z8];rfl
  ·refine AO ?_
   exact Ad (i+1,f,out,v) (Bt rfl rfl rfl rfl) ⟨by simp only;omega,by simp only;omega,Y5 hcnt hfi hil hb (fun e=>h (by rw [e];rfl)),hpr,by simp only;omega,st⟩ (by simp only;omega)
 ·obtain rfl:i=s.length:=by omega
  rw [Ns (s:=s.drop f) (by rw [za (by rw [z7];omega)]at hcnt;exact hcnt)]at hpr
  refine AL ?_
  refine xa (Pz rfl rfl rfl hfi) ?_
  refine xv (Ep rfl rfl rfl) ?_
  rintro _ hp ⟨A,rfl,hx,hrd⟩
  have st:=st.ext hx
  refine BN (BY st 0 rfl (hrd) (rfl) (by simp [Value.one]) (by simp;omega) rfl rfl rfl rfl rfl rfl rfl) rfl rfl rfl fun v hp st=> ?_
  simp only [z0,z1]at st
  rw [show out.map AU++[AU (s.drop f)]=(out++[s.drop f]).map AU by rw [List.map_append];rfl,←hpr]at st
  refine AF ?_
  exact st
theorem dp (s:List UInt8) (h0:AA):AG Tryz.prog 10 [AU s] h0 fun v h'=>(∃b,v= .bool b∧(b=true→DU s))∧AV h0 h':=by
 refine BE Tryz.func10 rfl fun _=>Bu ?_
 refine Am 9 rfl (fun h=> ?_) (fun h=> ?_)
 ·refine Bu ?_
  exact ⟨⟨_,rfl,fun e=>by cases e⟩,AV.refl _⟩
 ·refine AH ?_
  refine AK rfl (fun h=> ?_) (fun h=> ?_)
  ·refine AH ?_
   exact ⟨⟨_,rfl,fun e=>by cases e⟩,AV.refl _⟩
  ·have hs:s.length≤64:=by omega
   refine AO ?_
   refine BD (fun x=>s.length-x) (fun x=>[(0,AU s),(3,nV x)]) (fun (x:Nat) hp=>x≤s.length∧(∀c∈s.take x,33≤c.toNat∧c.toNat≤126)∧h0=hp)
    0 (Cu rfl rfl) ⟨Nat.zero_le _,(by simp),rfl⟩ ?_
   rintro i hp ⟨hi,hall,rfl⟩
   refine AP ?_
   refine AK rfl (fun h=> ?_) (fun h=> ?_)
   ·have hil:i<s.length:=by omega
    obtain ⟨b,hb⟩:∃b,s[i]? =some b:=⟨_,z9 hil⟩
    refine AO ?_
    refine xa (Jf (b:=b) rfl rfl rfl (Qp hb)) (AB ?_)
    refine Am 24 rfl (fun h=> ?_) (fun h=> ?_)
    ·refine By ?_
     exact ⟨⟨_,rfl,fun e=>by cases e⟩,AV.refl _⟩
    ·have h33:=h
     refine AB ?_
     refine xa (Jf (b:=b) rfl rfl rfl (Qp hb)) (AF ?_)
     refine AK rfl (fun h=> ?_) (fun h=> ?_)
     ·refine AH ?_
      exact ⟨⟨_,rfl,fun e=>by cases e⟩,AV.refl _⟩
     ·refine AO ?_
      refine Ad (i+1) (Cu rfl rfl) ⟨by omega,fun x hx=> ?_,rfl⟩ (by omega)
      rw [List.take_add_one,hb]at hx
      rcases List.mem_append.1 hx with hx | hx
      ·exact hall x hx
      ·simp only [Option.toList_some,zo]at hx
       subst hx;omega
   ·have hall:∀c∈s,33≤c.toNat∧c.toNat≤126:=by rwa [za (by omega)]at hall
    refine AJ ?_
    refine xk (cy hs h0) rfl ?_
    rintro v hp1 st
    have hx1:=st.low
    obtain ⟨A,n,c,rfl,hn,_,_,hrd⟩:=st.row 0 rfl
    have hpl:=MB s
    have hcl:s.count 47≤s.length:=List.count_le_length
    rw [z3,zf]at hn
    refine AP ?_
    refine BD (fun x=>n-x) (fun x=>[(4,.slice A n c),(5,nV x)]) (fun (x:Nat) hp=>x≤n∧(∀p∈(C9 s).take x,Jl p)∧hp1=hp)
     0 (Cu rfl rfl) ⟨Nat.zero_le _,(by simp),rfl⟩ ?_
    rintro j hp ⟨hj,hok,rfl⟩
    refine AP ?_
    refine AK rfl (fun h=> ?_) (fun h=> ?_)
    ·have hjl:j < (C9 s).length:=by omega
     obtain ⟨bb,o,rfl,hc0⟩:=hrd.at_ (by rw [z3];omega)
     have hcs:=hc0 j (AU (C9 s)[j]) (by rw [zr,z9 hjl];rfl)
     have hpj:∀c∈(C9 s)[j],33≤c.toNat∧c.toNat≤126:=fun c hc=>hall c (Nu (List.getElem_mem hjl) hc)
     refine AP ?_
     refine xl (hcs) rfl ?_
     refine xa (GS (b:=[]) rfl rfl) (AC ?_)
     refine Am 43 rfl (fun h=> ?_) (fun h=> ?_)
     ·refine Hp ?_
      exact ⟨⟨_,rfl,fun e=>by cases e⟩,hx1⟩
     ·have h1:=h
      refine AF ?_
      refine xl (hcs) rfl ?_
      refine xa (GS (b:=[46]) rfl rfl) (AB ?_)
      refine Am 50 rfl (fun h=> ?_) (fun h=> ?_)
      ·refine B3 ?_
       exact ⟨⟨_,rfl,fun e=>by cases e⟩,hx1⟩
      ·have h2:=h
       refine AF ?_
       refine xl (hcs) rfl ?_
       refine xa (GS (b:=[46,46]) rfl rfl) (AB ?_)
       refine AK rfl (fun h=> ?_) (fun h=> ?_)
       ·refine AH ?_
        exact ⟨⟨_,rfl,fun e=>by cases e⟩,hx1⟩
       ·refine AO ?_
        refine Ad (j+1) (Cu rfl rfl) ⟨by omega,fun x hx=> ?_,rfl⟩ (by omega)
        rw [List.take_add_one,z9 hjl]at hx
        rcases List.mem_append.1 hx with hx | hx
        ·exact hok x hx
        ·simp only [Option.toList_some,zo]at hx
         subst hx
         exact ⟨hpj,h1,h2,h⟩
    ·refine AL ?_
     rw [za (by omega)]at hok
     exact ⟨⟨_,rfl,fun _=>⟨hs,hok⟩⟩,hx1⟩
end Go.Bn
end

section
namespace Go.Bn
open Go Proofs
theorem gu {px n c:Nat} {A:Option Addr} {d:List UInt8} {l:List Av} {h0:AA} (hp0:Az h0 ⟨px,0,none⟩=some (.slice A n c)) (hr:Rd h0 A (Bf l)) (hl:l.length=n) (hn:n≤1000):
  AG Tryz.prog 104 [AM px,AU d] h0 fun v h'=>∃p5 p3 A2 n2 c2,v= .func (.func 151) #[] #[AM p5,AM p3]∧St h0.size h0 h' [pt p5 81 [.slice A2 n2 c2],CJ (.slice A2 n2 c2) l,pt p3 9 [AU d]]:=by
 have st:=St.start h0
 refine Ac Tryz.func104 rfl fun _=>AB ?_
 refine xv (Bv rfl rfl) ?_
 rintro _ hp ⟨p3,rfl,hnew⟩
 replace st:=st.new hnew
 refine AH ?_
 refine xk (XE (Bz st.low hp0) (hr.ext st.low) hl hn) rfl ?_
 rintro w2 hp2 st2
 replace st:=st.join st2
 simp only [z5,z4]at st
 obtain ⟨A2,n2,c2,rfl,_⟩:=st.row 0 rfl
 refine xn st fun p5 hp st=> ?_
 refine xj st 0 fun hp st=> ?_
 simp only [z0,z1]at st
 refine AO ?_
 exact ⟨_,_,_,_,_,rfl,st⟩
theorem XG {B y p5 p3 n c:Nat} {A:Option Addr} {d:List UInt8} {l:List Av} {F:List AE} {h0:AA} (JR:List Av→List AE) (st0:St B h0 h0 (pt p5 81 [.slice A n c]::CJ (.slice A n c) l::pt p3 9 [AU d]::(JR []++F))) (hn:l.length≤1000) (hM:∀m∈l,DU m.name)
  (hround:∀ (s:List Av) (x:Av) (F':List AE) (h:AA),BC B h0 h→x∈l→s.length<l.length→(d=[]→∃r,s++x::r=l)→St B h h (JR s++F')→FJ Tryz.prog y [.agg (AY x).toArray] h fun u h'=>u= .bool true∧St B h h' (JR (s++[x])++F')):
  AG Tryz.prog 151 [.func (.yield y) #[] #[],AM p5,AM p3] h0 fun _ h'=>∃s,s.length≤l.length∧(d=[]→s=l)∧St B h0 h' (JR s++F):=by
 have st:=st0
 obtain ⟨hln,_⟩:=st.rdS 1 rfl
 rw [CX]at hln
 refine Bg Tryz.func151 rfl fun _=> ?_
 refine Hx rfl (fun _ _ _ hh=>hh) (AJ ?_)
 refine xc st 0 0 ?_
 refine AJ ?_
 refine BD (fun s=>n-s.1) (fun s=>[(0,.func (.yield y) #[] #[]),(1,AM p5),(2,AM p3),(6,.slice A n c),(7,nV n),(8,nV s.1)])
  (fun (s:Nat×List Av) hp=>s.1≤n∧s.2.length≤s.1∧(d=[]→s.2=l.take s.1)∧St B h0 hp (pt p5 81 [.slice A n c]::CJ (.slice A n c) l::pt p3 9 [AU d]::(JR s.2++F)))
  (0,[]) (CL rfl rfl rfl rfl rfl rfl) ⟨Nat.zero_le _,Nat.le_refl _,fun _=>rfl,st⟩ ?_
 clear st st0
 rintro ⟨i,s⟩ hp ⟨hi,hsl,hse,st⟩
 simp only at hi hsl hse st ⊢
 refine AH ?_
 refine AK rfl (fun h=> ?_) (fun h=> ?_)
 ·obtain ⟨m,hm⟩:∃m,l[i]? =some m:=⟨_,z9 (by omega)⟩
  have hml:=List.mem_of_getElem? hm
  have htk:l.take (i+1)=l.take i++[m]:=by rw [List.take_add_one,hm];rfl
  obtain ⟨bb,o,rfl,hc0⟩:=Rd.flat AY 7 (st.rdS 1 rfl).2 (fun _=>rfl) (by omega) (by omega)
  refine AH ?_
  refine xa (Bp (i:=i) rfl rfl rfl (by omega)) ?_
  refine xa (Ai (vs:=AY m) (fun z u hz=>hc0 i (by omega) z u (by rw [(zc.1 hm).2];exact hz)) rfl rfl rfl rfl) ?_
  refine xn st fun p7 hp st=> ?_
  refine xw (us:=AY m) st 0 (Cl m) fun hp st=> ?_
  simp only [z0]at st
  refine AJ ?_
  refine xc st 3 0 ?_
  refine AC ?_
  refine xc st 0 0 ?_
  refine xk (bO d m.name _) rfl ?_
  rintro _ hp2 ⟨⟨b,rfl,hb⟩,hx2⟩
  replace st:=st.ext hx2
  refine AF ?_
  refine C6 rfl (fun h=> ?_) (fun h=> ?_)
  ·refine AH ?_
   have hbf:b=false:=by simpa using h
   exact Ad (i+1,s) (CL rfl rfl rfl rfl rfl rfl) ⟨by simp only;omega,by simp only;omega,fun hd=>absurd (hb hd (hM m hml)) (by rw [hbf];decide),st.tail⟩ (by simp only;omega)
  ·refine AF ?_
   refine xa (Ai (vs:=AY m) (st.cells 0 rfl) rfl rfl rfl rfl) ?_
   have st3:=st.perm (zb [_,_,_,_] (JR s) F)
   refine Ia (Io rfl (hround s m _ _ st3.low hml (by omega) (fun hd=>⟨l.drop (i+1),by rw [hse hd];show l.take i++([m]++l.drop (i+1))=l;rw [←z8,←htk,List.take_append_drop]⟩) st3.here) rfl) rfl rfl rfl ?_
   rintro _ hp3 ⟨rfl,st4⟩
   replace st:=(st3.trans st4).perm (zb (JR (s++[m])) [pt p7 92 (AY m),pt p5 81 [.slice (some ⟨bb,o,none⟩) n c],CJ (.slice (some ⟨bb,o,none⟩) n c) l,pt p3 9 [AU d]] F)
   refine Bu ?_
   exact Ad (i+1,s++[m]) (CL rfl rfl rfl rfl rfl rfl) ⟨by simp only;omega,by simp only [z2,zm];omega,fun hd=>by simp only;rw [hse hd,htk],st.tail⟩ (by simp only;omega)
 ·refine AB ?_
  refine ⟨s,by omega,fun hd=> ?_,st.tail.tail.tail⟩
  rw [hse hd,za (by omega)]
theorem RZ {B pa px ps p cap id en:Nat} {w:Value} {d:List UInt8} {s:AQ} {l:List Av} {f:Fs} {F:List AE} {h0:AA} (st0:St B h0 h0 (B9 pa px ps p cap id en s false true w l f F)) (hn:l.length≤1000):
  AG Tryz.prog 54 [AM pa,AU d] h0 fun v h'=>∃p5 p3 A2 n2 c2,v= .func (.func 151) #[] #[AM p5,AM p3]∧St h0.size h0 h' [pt p5 81 [.slice A2 n2 c2],CJ (.slice A2 n2 c2) l,pt p3 9 [AU d]]:=by
 obtain ⟨A1,n1,c1,rfl,hlen1,hnc1,_,_⟩:=st0.row 2 rfl
 rw [CX]at hlen1
 refine Ac Tryz.func54 rfl fun _=>AP ?_
 refine xk (JA (st0.cell 0 (i:=259) rfl (Fy _ _ _))) rfl ?_
 rintro _ _ ⟨rfl,rfl⟩
 refine Aj ?_
 refine xl (st0.cell 0 (i:=257) rfl (HB _ _ _)) rfl (AC ?_)
 refine xk (gu (d:=d) (st0.cell 1 (i:=0) rfl rfl) (st0.rdS 2 rfl).2 (by omega) (by omega)) rfl ?_
 rintro _ hp2 h2
 refine AF ?_
 exact h2
end Go.Bn
end

section
namespace Go.Bn
open Go Proofs
def Ev:List (List UInt8×List UInt8)→List Value→List Value
  | (n,_)::r,w::ws=>AU n::w::Ev r ws
  | _,_=>[]
theorem Sp {n dt:List UInt8} {w:Value}:∀ {fl:List (List UInt8×List UInt8)} {ws:List Value},fl.length=ws.length→Ev (fl++[(n,dt)]) (ws++[w])=Ev fl ws++[AU n,w]
 | [],[],_=>rfl
 | (m,e)::fl,u::ws,h=>by
  simp only [z5,Ev,Sp (fl:=fl) (ws:=ws) (by simpa using h)]
 | [],_::_,h=>by simp at h
 | _::_,[],h=>by simp at h
theorem M1:∀ {fl:List (List UInt8×List UInt8)} {ws:List Value},fl.length=ws.length→(Ev fl ws).length=fl.length*2
 | [],[],_=>rfl
 | (m,e)::fl,u::ws,h=>by
  have:=M1 (fl:=fl) (ws:=ws) (by simpa using h)
  simp only [Ev,ze,this];omega
 | [],_::_,h=>by simp at h
 | _::_,[],h=>by simp at h
@[reducible] def H2 (w:Value) (dt:List UInt8):AE:=row 5 1 w (dt.map AN)
def Gn (v:Value) (fl:List (List UInt8×List UInt8)):AE:=Cb fun ws:List Value=>CD (row 45 2 v (Ev fl ws)) (C4 H2 ws (fl.map Prod.snd))
theorem St.files {B:Nat} {h0 hp:AA} {v:Value} {fl:List (List UInt8×List UInt8)} {F:List AE} (st:St B h0 hp (Gn v fl::F)):∃ws,fl.length=ws.length∧St B h0 hp (Bn.row 45 2 v (Ev fl ws)::C4 H2 ws (fl.map Prod.snd)::F):=by
 obtain ⟨ws,st⟩:=St.ex.1 st
 have st:=St.star.1 st
 have:=St.zip_len st.sw
 exact ⟨ws,by simpa using this.symm,st⟩
theorem St.filesI {B:Nat} {h0 hp:AA} {v:Value} {ws:List Value} {fl:List (List UInt8×List UInt8)} {F:List AE} (st:St B h0 hp (Bn.row 45 2 v (Ev fl ws)::C4 H2 ws (fl.map Prod.snd)::F)):St B h0 hp (Gn v fl::F):=St.ex.2 ⟨ws,St.star.2 st⟩
theorem RY {B pa px ps p cap id en:Nat} {w:Value} {s:AQ} {l:List AS} {f:Fs} {F:List AE} {h0:AA} (st0:St B h0 h0 (B9 pa px ps p cap id en s false true w (mems l) f F)) (hR:J5 f id l):
  AG Tryz.prog 42 [AM pa] h0 fun v h'=>∃w,v=Al [w,nV 0]∧St h0.size h0 h' [Gn w (Bl l)]:=by
 obtain ⟨hM,hMl⟩:=hR.log.mems
 have hMn:=hM.len
 have hfl:(Bl l).length=(mems l).length:=by simp [Bl,mems]
 have st:=St.start h0
 refine BE Tryz.func42 rfl fun _=>AB ?_
 refine xv (Bv rfl rfl) ?_
 rintro _ hp ⟨p1,rfl,hnew⟩
 replace st:=st.new hnew
 refine xn st fun p2 hp st=> ?_
 refine xn st fun p3 hp st=>AJ ?_
 refine xc st 2 0 ?_
 refine xk (JA ((st0.ext st.low).cell 0 (i:=259) rfl (Fy _ _ _))) rfl ?_
 rintro _ _ ⟨rfl,rfl⟩
 refine Bu ?_
 refine xn st fun p5 hp st=>AJ ?_
 refine xc st 3 0 ?_
 refine xk (RZ (d:=[]) (st0.ext st.low).here (by omega)) rfl ?_
 rintro _ hp2 ⟨q5,q3,A2,n2,c2,rfl,st2⟩
 replace st:=st.join st2
 simp only [z5,z4]at st
 refine AB ?_
 refine GL st rfl rfl (by kernel_rfl) fun fn tmps L y d hp1 hL hok' hx1 st1=> ?_
 have s0:=St.filesI (fl:=[]) (ws:=[]) ((St.zip_nil (f:=H2)).2 (st1.nilrow 45 2)).sw
 have s1:=s0.sel 10 [6,0,1,2,3,4,5,7,8,9]
 have s2:St h0.size h0 hp1 ((Cb fun v=>CD (pt p5 22 [v]) (Gn v ((Bl l).take 0)))::_):=St.ex.2 ⟨Value.slice none 0 0,St.star.2 s1⟩
 have s3:=s2.sel 9 [3,4,5,1,8,0,2,6,7]
 clear s0 s1 s2
 refine AG.mono (XG (B:=h0.size) (y:=y) (d:=[]) (F:=[BG d (.deferred (some [])),pt p3 35 [nV 0],pt p2 22 [.slice none 0 0]]) (fun s=>[BG y (L .ready none),pt p1 49 [AM pa],Cb fun v=>CD (pt p5 22 [v]) (Gn v ((Bl l).take s.length))]) s3.here (by omega) (fun m hm=>(hM.ok m hm).hn) ?_) ?_
 ·intro s x F' h hlow hx hsl hex st2
  obtain ⟨r,hr⟩:=hex rfl
  subst hL
  simp only [z5,z4]at st2
  obtain ⟨v,st⟩:=St.ex.1 (st2.sel 3 [2,0,1])
  replace st:=St.star.1 st
  obtain ⟨ws,hws,st⟩:=St.files st.sw
  have hxi:(mems l)[s.length]? =some x:=by rw [←hr,zh (Nat.le_refl _),Nat.sub_self];rfl
  obtain ⟨q,hqi,hqx⟩:∃q,(Cf l)[s.length]? =some q∧Cc q=x:=by
   unfold mems at hxi
   rw [zr]at hxi
   cases e:(Cf l)[s.length]? with
   | none=>rw [e]at hxi;cases hxi
   | some q=>rw [e]at hxi;cases hxi;exact ⟨q,rfl,rfl⟩
  have hqm:=List.mem_of_getElem? hqi
  have hfn:(Bl l).take (s.length+1)=(Bl l).take s.length++[(q.2.name,q.2.data)]:=by
   rw [List.take_add_one]
   unfold Bl
   rw [zr,hqi];rfl
  have hxn:x.name=q.2.name:=by rw [←hqx];rfl
  have hda:=fun {hh:AA} (hx:AV h0 hh)=>RU (st0.ext hx).here hR hqm
  rw [hqx]at hda
  have hlw:=st1.low.trans hlow
  have hwl:ws.length≤1000:=by rw [←hws,z6];omega
  refine GZ (st.obj_at 3 rfl) hok' rfl rfl fun w0 hw0=> ?_
  simp only [E2]
  refine AC ?_
  refine xn st fun p6 hp st=> ?_
  refine xw (us:=AY x) st 0 (Cl x) fun hp st=> ?_
  simp only [z0]at st
  refine AC ?_
  refine GJ (st.obj_at 4 rfl) ?_
  replace st:=st.loop 4 .busy none rfl
  simp only [z0,z1]at st
  refine AF ?_
  refine xc st 5 0 ?_
  refine xa (Ai (vs:=AY x) (st.cells 0 rfl) rfl rfl rfl rfl) ?_
  refine xk (hda (hlw.trans st.low)) rfl ?_
  rintro _ hp3 ⟨w3,rfl,st3⟩
  replace st:=st.join st3
  simp only [z5,z4]at st
  obtain ⟨A3,n3,c3,rfl,_⟩:=st.row 0 rfl
  obtain ⟨A4,n4,c4,rfl,_⟩:=st.row 2 rfl
  refine Cp ?_
  refine xc st 4 0 ?_
  refine AC ?_
  refine xc st 1 0 ?_
  refine AC ?_
  refine xa (AZ (ps:=[(0,AU x.name),(1,.slice A3 n3 c3)]) (cs:= #[AU x.name,.slice A3 n3 c3]) rfl rfl) ?_
  refine xv (D4 (us:=[AU x.name,.slice A3 n3 c3]) rfl rfl rfl rfl (by kernel_rfl)) ?_
  rintro _ hp ⟨A6,rfl,hx6,hrd⟩
  replace st:=st.ext hx6
  refine BN (BY st 2 rfl (hrd) (rfl) (by simp [Value.one]) (by rw [M1 hws,hws];simp;omega) rfl rfl rfl rfl rfl rfl rfl) rfl rfl rfl fun v hp st=> ?_
  simp only [z0,z1]at st
  obtain ⟨A7,n7,c7,rfl,_⟩:=st.row 2 rfl
  refine xj st 4 fun hp st=> ?_
  simp only [z0,z1]at st
  refine AB ?_
  refine FL (st.obj_at 5 rfl) ⟨rfl,?_⟩
  replace st:=st.loop 5 .ready none rfl
  simp only [z0,z1]at st
  have s5:=st.sel 7 [3,0,2,4,5,6]
  simp only [BU,BV,An]at s5
  have s6:=(St.zip_snoc (f:=H2) s5).sw
  rw [hxn,←Sp (dt:=q.2.data) hws,show ((Bl l).take s.length).map Prod.snd++[q.2.data]=((Bl l).take s.length++[(q.2.name,q.2.data)]).map Prod.snd by simp,←hfn,show s.length+1=(s++[x]).length by simp]at s6
  have s7:St h0.size h _ ((Cb fun v=>CD (pt p5 22 [v]) (Gn v ((Bl l).take (s++[x]).length)))::_):=St.ex.2 ⟨_,St.star.2 (St.filesI s6).sw⟩
  exact s7.sel 3 [1,2,0]
 rintro v h' ⟨s,hsl,hse,st2⟩
 obtain rfl:=hse rfl
 simp only [z5,z4]at st2
 refine .inl ⟨_,st1.trans st2,fun hp3 st=> ?_⟩
 obtain ⟨v9,st⟩:=St.ex.1 (st.sel 3 [2,0,1])
 replace st:=St.star.1 st
 rw [za (by omega)]at st
 obtain ⟨ws,hws,st⟩:=St.files st.sw
 obtain ⟨A9,n9,c9,rfl,_⟩:=st.row 0 rfl
 refine AF ?_
 refine xc st 2 0 ?_
 refine xj st 7 fun hp st=> ?_
 simp only [z0,z1]at st
 refine xj st 6 fun hp st=> ?_
 simp only [z0,z1]at st
 refine AC ?_
 have stp:=st.put 5 (.deferred none) rfl
 rw [←MJ]at stp
 refine Gg (d:=d) (.cons (Hu rfl rfl (stp.cell 7 (i:=0) rfl rfl)) (.cons (Hu rfl rfl (stp.cell 6 (i:=0) rfl rfl)) .nil)) ?_ (st.obj_at 5 rfl)
 exact ⟨_,rfl,St.filesI (stp.sel 8 [0,1])⟩
end Go.Bn
end

section
namespace Go.Bn
open Go Proofs
theorem Xm {B pa px ps p cap id en:Nat} {w:Value} {nd:List UInt8} {s:AQ} {l:List Av} {f:Fs} {F:List AE} {h0:AA} (st0:St B h0 h0 (B9 pa px ps p cap id en s false true w l f F)) (hM:FC l):
  AG Tryz.prog 30 [AM pa,AU nd] h0 fun v h'=>(∃A n c,v= .slice A n c)∧AV h0 h':=by
 have hMn:=hM.len
 have st:=St.start h0
 refine Ac Tryz.func30 rfl fun _=>AL ?_
 refine xn st fun p5 hp st=>AL ?_
 refine xk (RZ (d:=nd) (st0.ext st.low).here (by omega)) rfl ?_
 rintro _ hp2 ⟨q5,q3,A2,n2,c2,rfl,st2⟩
 replace st:=st.join st2
 simp only [z5,z4]at st
 refine AB ?_
 refine GL st rfl rfl (by kernel_rfl) fun fn tmps L y d hp1 hL hok' hx1 st1=> ?_
 have s1:=(st1.nilrow 9 1).sel 7 [6,0,1,2,3,4,5]
 have s2:St h0.size h0 hp1 ((Cb fun v=>CD (pt p5 36 [v]) (row 9 1 v (([]:List Av).map fun m=>AU m.name)))::_):=St.ex.2 ⟨Value.slice none 0 0,St.star.2 s1⟩
 have s3:=s2.sel 6 [3,4,5,1,0,2]
 clear s1 s2
 refine AG.mono (XG (B:=h0.size) (y:=y) (d:=nd) (F:=[BG d (.deferred (some []))]) (fun s=>[BG y (L .ready none),Cb fun v=>CD (pt p5 36 [v]) (row 9 1 v (s.map fun m=>AU m.name))]) s3.here (by omega) (fun m hm=>(hM.ok m hm).hn) ?_) ?_
 ·intro s x F' h hlow hx hsl hex st2
  subst hL
  simp only [z5,z4]at st2
  obtain ⟨v,st⟩:=St.ex.1 st2.sw
  replace st:=St.star.1 st
  obtain ⟨A4,n4,c4,rfl,_⟩:=st.row 1 rfl
  refine GZ (st.obj_at 2 rfl) hok' rfl rfl fun w0 hw0=> ?_
  simp only [E2]
  refine AC ?_
  refine xn st fun p6 hp st=> ?_
  refine xw (us:=AY x) st 0 (Cl x) fun hp st=> ?_
  simp only [z0]at st
  refine AC ?_
  refine GJ (st.obj_at 3 rfl) ?_
  replace st:=st.loop 3 .busy none rfl
  simp only [z0,z1]at st
  refine AB ?_
  refine xc st 1 0 ?_
  refine AC ?_
  refine xc st 0 0 ?_
  refine xv (Ep rfl rfl rfl) ?_
  rintro _ hp ⟨A6,rfl,hx6,hrd⟩
  replace st:=st.ext hx6
  refine BN (BY st 2 rfl (hrd) (rfl) (by simp [Value.one]) (by simp;omega) rfl rfl rfl rfl rfl rfl rfl) rfl rfl rfl fun v hp st=> ?_
  simp only [z0,z1]at st
  obtain ⟨A7,n7,c7,rfl,_⟩:=st.row 2 rfl
  refine xj st 1 fun hp st=> ?_
  simp only [z0,z1]at st
  refine AB ?_
  refine FL (st.obj_at 3 rfl) ⟨rfl,?_⟩
  replace st:=st.loop 3 .ready none rfl
  simp only [z0,z1]at st
  rw [show (s.map fun m=>AU m.name)++[AU x.name]=(s++[x]).map fun m=>AU m.name by simp]at st
  have s7:St h0.size h _ ((Cb fun v=>CD (pt p5 36 [v]) (row 9 1 v ((s++[x]).map fun m=>AU m.name)))::_):=St.ex.2 ⟨_,St.star.2 st.tail⟩
  exact s7.sw
 rintro v h' ⟨s,hsl,hse,st2⟩
 simp only [z5,z4]at st2
 refine .inl ⟨_,st1.trans st2,fun hp3 st=> ?_⟩
 obtain ⟨v9,st⟩:=St.ex.1 st.sw
 replace st:=St.star.1 st
 obtain ⟨A9,n9,c9,rfl,_⟩:=st.row 1 rfl
 refine AF ?_
 refine xc st 0 0 ?_
 refine AB ?_
 have stp:=st.put 3 (.deferred none) rfl
 rw [←MJ]at stp
 refine Gg (d:=d) (.cons (.tmp rfl) .nil) ?_ (st.obj_at 3 rfl)
 exact ⟨⟨_,_,_,rfl⟩,stp.low⟩
end Go.Bn
end

section
namespace Go.Bn
open Go Proofs
theorem PM {α:Type} {nm:α→List UInt8} {x:α}:∀ {l:List α},(∀y∈l,B5 (nm y) (nm x)=true)→Bx nm x l=l++[x]
 | [],_=>rfl
 | y::r,h=>by
  have h0:=h y zp
  rw [Bx,if_neg (by rw [NP h0];simp),if_neg (fun e=>by rw [e,Hh]at h0;cases h0),PM fun z hz=>h z (zq _ hz)];rfl
noncomputable def Ei (l:List AS) (lv:Int):List AS:=(Bl l).map fun q=>⟨q.1,q.2,lv⟩
theorem bL {s:List AS} {m:Av} (h:m∈mems s):∃e∈s,m.name=e.name:=by
 obtain ⟨q,hq,rfl,_⟩:=LW h
 obtain ⟨s1,r1,h1,_⟩:=LN _ s rfl q hq
 exact ⟨q.2,by rw [h1];simp,rfl⟩
theorem Sq {s:List AS} {q:List UInt8×List UInt8} (h:q∈Bl s):∃e∈s,q=(e.name,e.data):=by
 obtain ⟨p,hp,rfl⟩:=List.mem_map.1 h
 obtain ⟨s1,r1,h1,_⟩:=LN _ s rfl p hp
 exact ⟨p.2,by rw [h1];simp,rfl⟩
theorem WN {l:List AS} (h:FK Av.name (mems l)):FK Prod.fst (Bl l):=by
 unfold FK mems at h
 unfold FK Bl
 rw [List.pairwise_map]at h ⊢
 exact h
theorem Td {l:List AS} (hl:l.Pairwise fun a b=>B5 a.name b.name=true):∀ (i:Nat) (e:AS),l[i]? =some e→mems (l.take (i+1))=mems (l.take i)++[Cc (1024+(AX (l.take i)).length,e)]∧Bl (l.take (i+1))=Bl (l.take i)++[(e.name,e.data)]:=by
 intro i e he
 have hlt:∀x∈l.take i,B5 x.name e.name=true:=fun x hx=>by
  obtain ⟨k,hk⟩:=List.mem_iff_getElem?.1 hx
  rw [List.getElem?_take]at hk
  split at hk
  ·rename_i hki
   obtain ⟨h1,rfl⟩:=zc.1 hk
   obtain ⟨h2,rfl⟩:=zc.1 he
   exact (List.pairwise_iff_getElem.1 hl) k i h1 h2 hki
  ·cases hk
 have htk:l.take (i+1)=l.take i++[e]:=by rw [List.take_add_one,he];rfl
 rw [htk,NV,O2]
 refine ⟨PM fun y hy=> ?_,PM fun y hy=> ?_⟩
 ·obtain ⟨x,hx,h⟩:=bL hy
  rw [h];exact hlt x hx
 ·obtain ⟨x,hx,rfl⟩:=Sq hy
  exact hlt x hx
theorem Wx {l:List AS} (hL:B4 l) (lv:Int):(Ei l lv).Pairwise fun a b=>B5 a.name b.name=true:=by
 unfold Ei
 rw [List.pairwise_map]
 exact WN hL.mems.1.srt
theorem Sr {l:List AS} (hl:l.Pairwise fun a b=>B5 a.name b.name=true):∀i,i≤l.length→Bl (l.take i)=(l.take i).map fun e=>(e.name,e.data)
 | 0,_=>by simp [Bl,Cf,Fi]
 | i+1,h=>by
  obtain ⟨e,he⟩:∃e,l[i]? =some e:=⟨_,z9 (by omega)⟩
  rw [(Td hl i e he).2,Sr hl i (by omega),List.take_add_one,he];simp
theorem Wv {l:List AS} (hL:B4 l) (lv:Int):Bl (Ei l lv)=Bl l:=by
 have:=Sr (Wx hL lv) (Ei l lv).length (Nat.le_refl _)
 rw [List.take_length]at this
 rw [this,Ei,List.map_map]
 exact List.map_id' _
theorem Q1 {l:List AS} (hL:B4 l) (lv:Int):(Ei l lv).length≤l.length:=by
 rw [Ei,z3,Bl,z3]
 have:=hL.mems.2
 rwa [mems,z3]at this
theorem Ww {l:List AS} (hL:B4 l) (lv:Int):∀e∈Ei l lv,e.ok:=fun e he=>by
 obtain ⟨q,hq,rfl⟩:=List.mem_map.1 he
 obtain ⟨x,hx,rfl⟩:=Sq hq
 exact ⟨(hL.ok x hx).hn,(hL.ok x hx).hd⟩
theorem PZ:∀ {l:List AS},(∀e∈l,e.ok)→(AX l).length≤l.length*2086
 | [],_=>by simp [AX]
 | e::r,h=>by
  have ih:=PZ (l:=r) fun x hx=>h x (zq _ hx)
  have h1:=(h e zp).rb_le
  have h2:=(h e zp).hd
  simp only [AX,zt,z2,ze]at ih ⊢
  omega
theorem NO {l:List AS} (h:∀e∈l,e.ok) (hn:l.length≤100) {n:Nat} (hln:l.length≤n) (hs:1024+n*2168+20≤2097152):B4 l∧(CE l).length≤1024+n*2168+20:=by
 have h1:=PZ h
 have hn2:l.length*2168≤n*2168:=Nat.mul_le_mul_right _ hln
 obtain ⟨h2,h3⟩:=NU _ l rfl (by omega) h (by omega)
 have h4:=Fz h2.ok
 have h5:Em l=(Bw (mems l)).length+20:=by unfold Em;rw [JL]
 have h6:(mems l).length*82≤l.length*82:=Nat.mul_le_mul_right _ h3
 have h7:=M8 l
 exact ⟨⟨h,hn,by omega⟩,by omega⟩
theorem So {n dt:List UInt8}:∀ {fl:List (List UInt8×List UInt8)} {ws:List Value} {i:Nat},fl.length=ws.length→fl[i]? =some (n,dt)→∃w,ws[i]? =some w∧∀j u,([AU n,w]:List Value)[j]? =some u→(Ev fl ws)[i*2+j]? =some u
 | [],_,i,_,h=>by simp at h
 | (m,e)::fl,[],i,h,_=>by simp at h
 | (m,e)::fl,u::ws,0,h,hi=>by
  cases hi
  refine ⟨u,rfl,fun j v hv=> ?_⟩
  rcases j with _ | _ | j
  ·simpa [Ev]using hv
  ·simpa [Ev]using hv
  ·simp at hv
 | (m,e)::fl,u::ws,i+1,h,hi=>by
  obtain ⟨w,h1,h2⟩:=So (fl:=fl) (ws:=ws) (i:=i) (by simpa using h) (by simpa using hi)
  refine ⟨w,by simpa using h1,fun j v hv=> ?_⟩
  rw [show (i+1)*2+j=(i*2+j)+2 by omega]
  simpa [Ev]using h2 j v hv
theorem Xz {B pa px ps p cap S id en wn:Nat} {lv:Int} {w:Value} {so sl:AQ} {l0 l:List AS} {f:Fs} {F:List AE} {h0:AA} (st0:St B h0 h0 (B9 pa px ps p cap id en sl false true w (mems l) f F)) (hI:SI f S cap id wn so sl l0 l) (hL:B4 l) (hroom:(f.dk.length+2)*S≤cap) (hdk:f.dk.length<1000) (hsz:1024+l.length*2168+20≤512*S):
  AG Tryz.prog 38 [AM pa,.int .i64 lv] h0 fun v h'=>(v=nV 0∧∃f' id' en' s' cs,DV f' [Ei l lv]∧HW ps cs∧St B h0 h' (afS pa ps p cap id' en' s' false cs f' F))∨
   (v=nV 10∧f.quiet=false∧∃f' po cs,DV f' [l0,Ei l lv]∧HW ps cs∧St B h0 h' (afS pa ps p cap id en sl po cs f' F)):=by
 have st:=st0
 have hS1:=hI.S
 have hll:=hL.len
 have hvl:=Q1 hL lv
 have hvs:=Wx hL lv
 have hvo:=Ww hL lv
 obtain ⟨hLV,hiv⟩:=NO hvo (by omega) hvl (by omega)
 obtain ⟨hMV,hMVl⟩:=hLV.mems
 have hvb:=PZ hvo
 have hvm:(Ei l lv).length*2086≤l.length*2086:=Nat.mul_le_mul_right _ hvl
 have hfv:∀ (i:Nat) (e:AS),(Ei l lv)[i]? =some e→(Bl l)[i]? =some (e.name,e.data)∧e.lv=lv:=fun i e he=>by
  unfold Ei at he
  rw [zr]at he
  cases h:(Bl l)[i]? with
  | none=>rw [h]at he;cases he
  | some q=>rw [h]at he;cases he;exact ⟨rfl,rfl⟩
 have hfl:(Bl l).length=(Ei l lv).length:=by simp [Ei]
 generalize Ei l lv=V at*
 refine Ac Tryz.func38 rfl fun _=>AP ?_
 refine xk (Kz (st.cell 0 (i:=259) rfl (Fy _ _ _)) (st.cell 0 (i:=258) rfl (Hy _ _ _)) (st.cell 0 (i:=256) rfl (Fx _ _ _)) (st.cell 3 (i:=9) rfl rfl)) rfl ?_
 rintro _ _ ⟨rfl,rfl⟩
 refine By ?_
 refine xk (RY st.here (hI.rd hL)) rfl ?_
 rintro _ hp2 ⟨w2,rfl,st2⟩
 replace st:=st.join st2
 simp only [z5,z4]at st
 obtain ⟨ws,hws,st⟩:=St.files st
 obtain ⟨A6,n6,c6,rfl,hlen6,hnc6,_,_⟩:=st.row 0 rfl
 rw [M1 hws]at hlen6
 obtain rfl:n6=V.length:=by omega
 refine iM ?_
 have st1:=((st.nilrow 92 7).nilrow 5 1)
 refine BD (fun s=>V.length-s.1) (fun s=>[(0,AM pa),(1,.int .i64 lv),(8,s.2.1),(9,s.2.2),(27,.slice A6 V.length c6),(28,nV V.length),(29,nV s.1)])
  (fun (s:Nat×Value×Value) hp=>s.1≤V.length∧St B h0 hp (row 5 1 s.2.1 ((AX (V.take s.1)).map AN)::CJ s.2.2 (mems (V.take s.1))::row 45 2 (.slice A6 V.length c6) (Ev (Bl l) ws)::C4 H2 ws ((Bl l).map Prod.snd)::B9 pa px ps p cap id en sl false true w (mems l) f F))
  (0,.slice none 0 0,.slice none 0 0) (Fq rfl rfl rfl rfl rfl rfl rfl) ⟨Nat.zero_le _,by rw [List.take_zero,NT];exact st1⟩ ?_
 clear st st1
 rintro ⟨i,v8,v9⟩ hp ⟨hi,st⟩
 simp only at hi st ⊢
 obtain ⟨A8,n8,c8,rfl,hlen8,_,_,_⟩:=st.row 0 rfl
 obtain ⟨A9,n9,c9,rfl,hlen9,_,_,_⟩:=st.row 1 rfl
 rw [z3,zf]at hlen8
 rw [CX]at hlen9
 refine AH ?_
 refine AK rfl (fun h=> ?_) (fun h=> ?_)
 ·obtain ⟨e,he⟩:∃e,V[i]? =some e:=⟨_,z9 (by omega)⟩
  obtain ⟨hfe,hle⟩:=hfv i e he
  obtain ⟨wi,hwi,hci⟩:=So hws hfe
  have heo:=hvo e (List.mem_of_getElem? he)
  obtain ⟨hms,hfs⟩:=Td hvs i e he
  have htk:V.take (i+1)=V.take i++[e]:=by rw [List.take_add_one,he];rfl
  have hlb:(AX (V.take (i+1))).length≤(AX V).length:=by
   have h:=congrArg (fun x=>(AX x).length) (List.take_append_drop (i+1) V)
   simp only [NN,z2]at h;omega
  have hm9:=(NS (List.take_append_drop i V) hvo (by omega) (by omega)).2
  rw [z6]at hm9
  have hls:=JT (V.take i) e
  rw [←htk]at hls
  have hee:AS.mk e.name e.data lv=e:=by rw [←hle]
  have st':=(St.zip_get (f:=H2) hwi (by rw [zr,hfe];rfl)).1 (st.sel 4 [3,0,1,2])
  obtain ⟨A3,n3,c3,rfl,hlen3,_,_,hrd3⟩:=st'.row 0 rfl
  rw [z3,zf]at hlen3
  have hn3:n3≤2000:=by rw [←hlen3];exact heo.hd
  obtain ⟨bb,o,rfl,hc0⟩:=(st.rdS 2 rfl).2.at_ (by rw [M1 hws];omega)
  refine AH ?_
  refine xa (Bp (i:=i) rfl rfl rfl (by omega)) ?_
  refine xa (Ai (vs:=[AU e.name,.slice A3 n3 c3]) (fun z u hz=>by have:=hc0 (i*2+z) u (hci z u hz);rwa [←Nat.add_assoc]at this) rfl rfl rfl rfl) ?_
  refine xv (CK rfl) ?_
  rintro _ hp ⟨p11,rfl,hnew⟩
  replace hrd3:=hrd3.ext hnew.1
  replace st:=st.new hnew
  have hx3:=st.low
  refine xw (us:=[AU e.name,.slice A3 n3 c3]) st 0 (by simp [Value.one]) fun hp st=> ?_
  simp only [z0]at st
  clear hrd3 st'
  have st':=(St.zip_get (f:=H2) hwi (by rw [zr,hfe];rfl)).1 (st.sel 5 [4,0,1,2,3])
  obtain ⟨_,_,_,e3,_,_,_,hrd3⟩:=st'.row 0 rfl
  cases e3
  refine AO ?_
  refine xc st 0 0 ?_
  refine AC ?_
  refine xc st 0 1 ?_
  refine AC ?_
  refine xk (Vg (lv:=lv) (name:=e.name) (Ib st 5 rfl) hrd3 hlen3 hn3) rfl ?_
  rintro _ hp3 hh
  obtain ⟨_,w4,rfl,st4⟩:=hh.resolve_left fun h=>h.1 heo.hn
  rw [hee]at st4
  replace st:=st.join st4
  simp only [z5,z4]at st
  obtain ⟨A4,n4,c4,rfl,hlen4,hnc4,_,_⟩:=st.row 0 rfl
  rw [z3,zf]at hlen4
  refine Cp ?_
  refine xa (CH (m:=1024) rfl rfl (by simp only [AI];omega)) ?_
  refine xk (Re (a:=1024+n8) (Ib st 6 rfl) (st.rdS 0 rfl).2 hlen4 (by omega) hnc4 heo (by omega)) rfl ?_
  rintro _ hp4 ⟨rfl,hx4⟩
  replace st:=st.ext hx4
  rw [hlen8]at hms
  refine xv (D4 (us:=AY (Cc (1024+n8,e))) rfl rfl rfl rfl (by kernel_rfl)) ?_
  rintro _ hp ⟨A6,rfl,hx6,hrd⟩
  replace st:=st.ext hx6
  refine BN (BY st 3 rfl (hrd) (rfl) (Cl _) (by rw [CX];rw [JX];omega) rfl rfl rfl rfl rfl rfl rfl) rfl rfl rfl fun v hp st=> ?_
  simp only [z0,z1]at st
  rw [←UD,←hms]at st
  refine AH ?_
  refine BN (BY st 2 rfl ((st.rdS 0 rfl).2) ((st.rdS 0 rfl).1) (Dl _) (by simp only [z3];omega) rfl rfl rfl rfl rfl rfl rfl) rfl rfl rfl fun v hp st=> ?_
  simp only [z0,z1]at st
  rw [←List.map_append,←JU,←htk]at st
  refine AO ?_
  exact Ad (i+1,_,_) (Fq rfl rfl rfl rfl rfl rfl rfl) ⟨by simp only;omega,st.tail.tail⟩ (by simp only;omega)
 ·obtain rfl:i=V.length:=by omega
  rw [List.take_length]at st hlen8 hlen9
  have hsS:Ba (0+(CE V).length)≤S:=by unfold Ba;omega
  refine AO ?_
  refine xl (st.cell 4 (i:=256) rfl (Fx _ _ _)) rfl (AB ?_)
  refine xk (ez (F:=CJ (.slice A9 n9 c9) (mems V)::pt pa 75 (Cj (AM ps) (AM px) true)::pt px 181 [w]::CJ w (mems l)::F) (st.here.sel 9 [7,8,1,4,5,6]) hI (fun h' rs s=>K1 (rs:=rs++[_]) (by rw [z8];exact s)) (st.rdS 0 rfl).2 hlen8 (st.rdS 1 rfl).2 (by omega) hLV hroom hdk hsS) rfl ?_
  refine fun v hp1 hh=>hh.elim (fun hh=> ?_) (fun hh=> ?_)
  ·obtain ⟨rfl,f1,id1,en1,s1,hg,st2⟩:=hh
   replace st:=st.trans st2
   refine B3 ?_
   refine xk (XH (st.rdS 2 rfl).2 (by omega) hMV) rfl ?_
   rintro _ hp6 ⟨qx,w6,rfl,st6⟩
   replace st:=st.join st6
   simp only [z5,z4]at st
   refine AH ?_
   refine BT (FE (i:=257) st 5 rfl rfl rfl (J7 _ _ _ (by omega)) rfl rfl) rfl rfl fun _ hp st=> ?_
   simp only [z0,z1,Rh]at st
   refine AP ?_
   exact .inl ⟨rfl,f1,id1,en1,s1,_,hg,Gh _ _,st.sel 8 [5,2,3]⟩
  ·obtain ⟨rfl,hq,f1,po,hg,st2⟩:=hh
   replace st:=st.trans st2
   refine Bq ?_
   exact .inr ⟨rfl,hq,f1,po,_,hg,Gh _ _,st.sel 6 [3,0,1]⟩
end Go.Bn
end

section
namespace Go.Bn
open Go Proofs
@[reducible] def BK (k:Int) (nm:List UInt8) (A:Option Addr) (n c:Nat) (lv:Int) (vk:Value) (cn cf:Int):List Value:=[.int .i64 k,AU nm,.slice A n c,.int .i64 lv,vk,.int .i64 cn,.int .u8 cf]
@[reducible] def BX (p:Nat) (va:Value):List Value:=[AM p,AU B7,va]
theorem VO {c:Nat} (hc:c≤65536) (h0:AA):AG Tryz.prog 6 [nV c,AU B7] h0 fun v h'=>∃q p,v=AM q∧St h0.size h0 h' [pt q 51 (BX p (.pointer none)),BF p c Dh]:=by
 refine Ac Tryz.func6 rfl fun _=>AO ?_
 refine xk (iC hc _) rfl ?_
 rintro _ hp ⟨p,rfl,st⟩
 refine AC ?_
 refine xa (AZ (ps:=[(0,AM p),(1,AU B7)]) (cs:=(BX p (.pointer none)).toArray) rfl rfl) ?_
 refine xb (us:=BX p (.pointer none)) st fun q hp st=>AF ?_
 exact ⟨q,p,rfl,st⟩
theorem dW {B q p cap n c:Nat} {nm:List UInt8} {A:Option Addr} {lv cn cf:Int} {vk va:Value} {f:Fs} {F:List AE} {h0:AA} (st0:St B h0 h0 (pt q 51 (BX p va)::BF p cap f::F)) (hlv:0≤lv∧lv≤255):
  AG Tryz.prog 26 [AM q,.agg (BK 17 nm A n c lv vk cn cf).toArray] h0 fun _ h'=>St B h0 h' (pt q 51 (BX p va)::BF p cap {f with quiet:=false}::F):=by
 have st:=st0
 refine Ac Tryz.func26 rfl fun _=>AB ?_
 refine xb (us:=BK 17 nm A n c lv vk cn cf) st fun p3 hp st=>AL ?_
 refine xc st 1 0 ?_
 refine xk (RB (st.here.sel 3 [2,0,1])) rfl ?_
 rintro _ _ ⟨⟨a,b,rfl⟩,rfl⟩
 refine Bq ?_
 refine xc st 0 0 ?_
 refine AL ?_
 refine xc st 0 3 ?_
 refine AO ?_
 refine AT (.bool false) (congrArg Value.bool (zu (by omega))) (AF ?_)
 refine AT (.bool false) (congrArg Value.bool (zu (by omega))) (Aj ?_)
 have st1:=(st.nilrow 3 1)
 refine BD (fun s=>300-s.1) (fun s=>[(0,AM q),(4,.int .i64 a),(6,s.2.1),(9,.int .i64 lv),(46,nV s.1)])
  (fun (s:Nat×Value×List Int) hp=>s.1≤300∧s.2.2.length=s.1∧St B h0 hp (row 3 1 s.2.1 (s.2.2.map (Value.int .i64))::pt p3 28 (BK 17 nm A n c lv vk cn cf)::pt q 51 (BX p va)::BF p cap f::F)) (0,.slice none 0 0,[]) (CP rfl rfl rfl rfl rfl) ⟨Nat.zero_le _,rfl,st1⟩ ?_
 clear st st1
 rintro ⟨i,v,vs⟩ hp ⟨hi,hl,st⟩
 simp only at hi hl st ⊢
 refine AH ?_
 refine AK rfl (fun h=> ?_) (fun h=> ?_)
 ·refine Bb ?_
  obtain ⟨z,hz⟩:∃z,IntKind.i64.wrap (IntKind.i64.wrap (IntKind.i64.wrap (a+1)+lv)+(i:Int))=z:=⟨_,rfl⟩
  rw [hz]
  refine xv (Ep rfl rfl rfl) ?_
  rintro _ hp ⟨A6,rfl,hx6,hrd⟩
  replace st:=st.ext hx6
  refine BN (BY st 0 rfl (hrd) (rfl) (by simp [Value.one]) (by simp;omega) rfl rfl rfl rfl rfl rfl rfl) rfl rfl rfl fun v hp st=> ?_
  simp only [z0,z1]at st
  refine AO ?_
  refine Ad (i+1,v,vs++[z]) (CP rfl rfl rfl rfl rfl) ⟨by simp only;omega,by simp only [z2,zm];omega,?_⟩ (by simp only;omega)
  simp only [List.map_append,zj,List.map_nil];exact st
 ·obtain rfl:i=300:=by omega
  obtain ⟨g,n2,c2,rfl,hn2,_,_,hrd⟩:=st.row0 0 rfl (by rw [z3];omega)
  rw [z3,zf]at hn2
  refine AH ?_
  refine xc st 2 0 ?_
  refine AC ?_
  refine xk (iD (st.here.sel 4 [3,0,1,2]) hrd hn2 (by omega)) rfl ?_
  rintro _ hp2 st2
  replace st:=st.trans st2
  refine AB ?_
  exact st.sel 4 [3,0]
end Go.Bn
end

section
namespace Go.Bn
open Go Proofs
structure Ks (k:Int) (e:Nat) (l0 l:List AS) (lv:Int) (nm:List UInt8) (qt:Bool) (L:List (List AS)):Prop where
  els:k≠12→k≠13→k≠14→L=[l0]
  syn:k=12→e≠0∧qt=false∧L=[l0,l]
  vac:k=13→e=0∧L=[Ei l lv]∨e≠0∧L=[l0,Ei l lv]
  clo:k=14→e=0∧L=[l]∨e≠0∧L=[l0,l]
  put:k=3→DU nm→qt=false
theorem Ks.other {k:Int} {e:Nat} {l0 l:List AS} {lv:Int} {nm:List UInt8} {qt:Bool} (h1:k≠12) (h2:k≠13) (h3:k≠14) (h4:k≠3):Ks k e l0 l lv nm qt [l0]:=⟨fun _ _ _=>rfl,fun h=>absurd h h1,fun h=>absurd h h2,fun h=>absurd h h3,fun h=>absurd h h4⟩
theorem QF {B q pa px ps p cap S id en wn n c:Nat} {k lv cn cf:Int} {A:Option Addr} {w vk:Value} {nm b:List UInt8} {so s:AQ} {l0 l:List AS} {f:Fs} {F:List AE} {h0:AA} (st0:St B h0 h0 (pt q 51 (BX p (AM pa))::B9 pa px ps p cap id en s false true w (mems l) f F)) (hI:SI f S cap id wn so s l0 l) (hL:B4 l) (hen:1024+(AX l).length=en) (hs:s.seq<99999) (hw:wn+2*S≤1000000)
  (hr:Rd h0 A (b.map AN)) (hl:b.length=n) (hb:n≤2000) (hln:l.length<100) (hsz:en+2200+(l.length+2)*82≤512*S) (hvz:1024+l.length*2168+20≤512*S) (hroom:(f.dk.length+2)*S≤cap) (hdk:f.dk.length<1000) (hk:(3≤k∧k≤7)∨(11≤k∧k≤14)):
  AG Tryz.prog 19 [AM q,.agg (BK k nm A n c lv vk cn cf).toArray] h0 fun v h'=>∃e:Nat,v=nV e∧
   ((k=3∧e=0∧DU nm∧∃so' s' f' w',SI f' S cap id (wn+2*S) so' s' l0 (l++[⟨nm,b,lv⟩])∧s'.seq≤s.seq+1∧f'.quiet=f.quiet∧St B h0 h' (pt q 51 (BX p (AM pa))::B9 pa px ps p cap id (en+(AS.rb ⟨nm,b,lv⟩).length) s' false true w' (mems (l++[⟨nm,b,lv⟩])) f' F))∨
   (k=12∧e=0∧∃so' s' f',SI f' S cap id (wn+S) so' s' l l∧s'.seq≤s.seq+1∧f'.quiet=f.quiet∧St B h0 h' (pt q 51 (BX p (AM pa))::B9 pa px ps p cap id en s' false true w (mems l) f' F))∨
   ∃f' id' en' s' po cs va L,DV f' L∧Ks k e l0 l lv nm f.quiet L∧(va= .pointer none∨va=AM pa∧HW ps cs)∧St B h0 h' (pt q 51 (BX p va)::afS pa ps p cap id' en' s' po cs f' F)):=by
 have st:=st0
 have hdirN:=Mt hL
 obtain ⟨hM,hMl⟩:=hL.mems
 have hdl:=Fz hM.ok
 have hS1:=hI.S
 have hml:(mems l).length*82≤l.length*82:=Nat.mul_le_mul_right _ hMl
 have hsD:Ba (en+Em l)≤S:=by unfold Ba;omega
 have hgood:=hI.set.good
 refine Ac Tryz.func19 rfl fun _=>AB ?_
 refine xv (Bv (cs:=BK k nm A n c lv vk cn cf) rfl rfl) ?_
 rintro _ hp ⟨p3,rfl,hnew⟩
 replace hr:=hr.ext hnew.1
 replace st:=st.new hnew
 refine AL ?_
 refine xc st 0 0 ?_
 refine AO ?_
 refine AK rfl (fun h=> ?_) (fun h=> ?_)
 ·refine AH ?_
  refine xc st 1 2 ?_
  refine AC ?_
  refine xc st 0 1 ?_
  refine AC ?_
  refine xc st 0 2 ?_
  refine AC ?_
  refine xc st 0 3 ?_
  refine xk (Xs (F:=pt p3 28 (BK k nm A n c lv vk cn cf)::pt q 51 (BX p (AM pa))::F) (st.here.sel 7 [2,3,4,5,6,0,1]) hI hL hen (by omega) hw hr hl hb hln hsz) rfl ?_
  refine fun v hp1 hh=>hh.elim (fun hh=> ?_) (fun hh=> ?_)
  ·obtain ⟨rfl,hn,so1,s1,f1,w1,hSI1,hsq,hq1,st2⟩:=hh
   replace st:=(st.trans st2).sel 7 [6,0,1,2,3,4]
   simp only [BU,BV,An]at st
   refine AF ?_
   exact ⟨0,rfl,.inl ⟨h,rfl,hn,so1,s1,f1,w1,hSI1,hsq,hq1,st⟩⟩
  ·obtain ⟨e,rfl,he,hq,f1,s1,hg,st2⟩:=hh
   replace st:=(st.trans st2).sel 7 [6,0,3,4]
   simp only [BU,BV,An]at st
   refine AF ?_
   exact ⟨e,rfl,.inr (.inr ⟨f1,id,en,s1,false,_,_,[l0],hg,⟨fun _ _ _=>rfl,fun h2=>by omega,fun h2=>by omega,fun h2=>by omega,fun _=>hq⟩,.inr ⟨rfl,Gh _ _⟩,st⟩)⟩
 ·refine AH ?_
  refine AK rfl (fun h=> ?_) (fun h=> ?_)
  ·refine AH ?_
   refine xc st 1 2 ?_
   refine AC ?_
   refine xc st 0 1 ?_
   refine xk (XZ (F:=pt p3 28 (BK k nm A n c lv vk cn cf)::pt q 51 (BX p (AM pa))::F) (nm:=nm) (st.here.sel 7 [2,3,4,5,6,0,1]) hI hL hen (by omega) hw hsz) rfl ?_
   rintro _ hp2 ⟨⟨e,rfl⟩,f1,en1,s1,cs1,hg,hcs,st2⟩
   replace st:=(st.trans st2).sel 5 [4,0,1,2]
   simp only [BU,BV,An]at st
   refine AF ?_
   exact ⟨e,rfl,.inr (.inr ⟨f1,id,en1,s1,false,cs1,_,[l0],hg,.other (by omega) (by omega) (by omega) (by omega),.inr ⟨rfl,hcs⟩,st⟩)⟩
  ·refine AH ?_
   refine AK rfl (fun h=> ?_) (fun h=> ?_)
   ·refine AH ?_
    refine xc st 1 2 ?_
    refine AC ?_
    refine xc st 0 2 ?_
    refine xk (X6 (st.cell 2 (i:=259) rfl (Fy _ _ _)) (st.cell 2 (i:=258) rfl (Hy _ _ _))) rfl ?_
    rintro _ _ ⟨rfl,rfl⟩
    refine AF ?_
    exact ⟨15,rfl,.inr (.inr ⟨f,id,en,s,false,_,_,[l0],hgood,.other (by omega) (by omega) (by omega) (by omega),.inr ⟨rfl,Gh _ _⟩,st.sel 7 [1,2,5,6]⟩)⟩
   ·refine AH ?_
    refine AK rfl (fun h=> ?_) (fun h=> ?_)
    ·refine AH ?_
     refine xc st 1 2 ?_
     refine xk (Xj (st.cell 2 (i:=259) rfl (Fy _ _ _)) (st.cell 2 (i:=258) rfl (Hy _ _ _))) rfl ?_
     rintro _ _ ⟨rfl,rfl⟩
     refine AF ?_
     exact ⟨15,rfl,.inr (.inr ⟨f,id,en,s,false,_,_,[l0],hgood,.other (by omega) (by omega) (by omega) (by omega),.inr ⟨rfl,Gh _ _⟩,st.sel 7 [1,2,5,6]⟩)⟩
    ·refine AH ?_
     refine AK rfl (fun h=> ?_) (fun h=> ?_)
     ·refine AH ?_
      refine xc st 1 2 ?_
      refine xk (XY (st.cell 2 (i:=259) rfl (Fy _ _ _)) (st.cell 2 (i:=258) rfl (Hy _ _ _))) rfl ?_
      rintro _ _ ⟨rfl,rfl⟩
      refine AF ?_
      exact ⟨15,rfl,.inr (.inr ⟨f,id,en,s,false,_,_,[l0],hgood,.other (by omega) (by omega) (by omega) (by omega),.inr ⟨rfl,Gh _ _⟩,st.sel 7 [1,2,5,6]⟩)⟩
     ·refine AH ?_
      refine AK rfl (fun h=> ?_) (fun h=> ?_)
      ·refine AH ?_
       refine xc st 1 2 ?_
       refine AC ?_
       refine xc st 0 1 ?_
       refine xk (Xh (F:=pt p3 28 (BK k nm A n c lv vk cn cf)::pt q 51 (BX p (AM pa))::F) (nm:=nm) (st.here.sel 7 [2,3,4,5,6,0,1]) hI hL hen (by omega) hw hsz) rfl ?_
       rintro _ hp2 ⟨⟨e,rfl⟩,f1,en1,s1,cs1,hg,hcs,st2⟩
       replace st:=(st.trans st2).sel 5 [4,0,1,2]
       simp only [BU,BV,An]at st
       refine AF ?_
       exact ⟨e,rfl,.inr (.inr ⟨f1,id,en1,s1,false,cs1,_,[l0],hg,.other (by omega) (by omega) (by omega) (by omega),.inr ⟨rfl,hcs⟩,st⟩)⟩
      ·refine AH ?_
       refine AK rfl (fun h=> ?_) (fun h=> ?_)
       ·refine AH ?_
        refine xc st 1 2 ?_
        refine xk (Rm (F:=pt p3 28 (BK k nm A n c lv vk cn cf)::pt q 51 (BX p (AM pa))::F) (st.here.sel 7 [2,3,4,5,6,0,1]) hI hL hen hs (by omega) hsD) rfl ?_
        refine fun v hp1 hh=>hh.elim (fun hh=> ?_) (fun hh=> ?_)
        ·obtain ⟨rfl,so1,s1,f1,hSI1,hsq,hq1,st2⟩:=hh
         replace st:=(st.trans st2).sel 7 [6,0,1,2,3,4]
         simp only [BU,BV,An]at st
         refine AF ?_
         exact ⟨0,rfl,.inr (.inl ⟨h,rfl,so1,s1,f1,hSI1,hsq,hq1,st⟩)⟩
        ·obtain ⟨rfl,hq,f1,s1,po,hg,st2⟩:=hh
         replace st:=(st.trans st2).sel 7 [6,0,3,4]
         simp only [BU,BV,An]at st
         refine AF ?_
         exact ⟨10,rfl,.inr (.inr ⟨f1,id,en,s1,po,_,_,[l0,l],hg,⟨fun h1=>absurd h h1,fun _=>⟨by omega,hq,rfl⟩,fun h2=>by omega,fun h2=>by omega,fun h2=>by omega⟩,.inr ⟨rfl,Gh _ _⟩,st⟩)⟩
       ·refine AH ?_
        refine AK rfl (fun h=> ?_) (fun h=> ?_)
        ·refine AH ?_
         refine xc st 1 2 ?_
         refine AC ?_
         refine xc st 0 3 ?_
         refine xk (Xz (F:=pt p3 28 (BK k nm A n c lv vk cn cf)::pt q 51 (BX p (AM pa))::F) (st.here.sel 7 [2,3,4,5,6,0,1]) hI hL hroom hdk hvz) rfl ?_
         refine fun v hp1 hh=>hh.elim (fun hh=> ?_) (fun hh=> ?_)
         ·obtain ⟨rfl,f1,id1,en1,s1,cs1,hg,hcs,st2⟩:=hh
          replace st:=(st.trans st2).sel 5 [4,0,1,2]
          simp only [BU,BV,An]at st
          refine AF ?_
          exact ⟨0,rfl,.inr (.inr ⟨f1,id1,en1,s1,false,cs1,_,_,hg,⟨fun _ h1=>absurd h h1,fun h2=>by omega,fun _=> .inl ⟨rfl,rfl⟩,fun h2=>by omega,fun h2=>by omega⟩,.inr ⟨rfl,hcs⟩,st⟩)⟩
         ·obtain ⟨rfl,hq,f1,po,cs1,hg,hcs,st2⟩:=hh
          replace st:=(st.trans st2).sel 5 [4,0,1,2]
          simp only [BU,BV,An]at st
          refine AF ?_
          exact ⟨10,rfl,.inr (.inr ⟨f1,id,en,s,po,cs1,_,_,hg,⟨fun _ h1=>absurd h h1,fun h2=>by omega,fun _=> .inr ⟨by omega,rfl⟩,fun h2=>by omega,fun h2=>by omega⟩,.inr ⟨rfl,hcs⟩,st⟩)⟩
        ·refine AO ?_
         refine xc st 1 2 ?_
         refine xk (Xc (F:=pt p3 28 (BK k nm A n c lv vk cn cf)::pt q 51 (BX p (AM pa))::F) (st.here.sel 7 [2,3,4,5,6,0,1]) hI hL hen hs (by omega) hsD) rfl ?_
         refine fun v hp1 hh=>hh.elim (fun hh=> ?_) (fun hh=> ?_)
         ·have hk14:k=14:=by omega
          obtain ⟨rfl,f1,s1,hg,st2⟩:=hh
          replace st:=(st.trans st2).sel 7 [6,0,3,4]
          simp only [BU,BV,An]at st
          refine B3 ?_
          refine xj st 0 fun hp st=> ?_
          simp only [z0,z1]at st
          refine AO ?_
          exact ⟨0,rfl,.inr (.inr ⟨f1,id,en,s1,false,_,_,[l],hg,⟨fun _ _ h1=>absurd hk14 h1,fun h2=>by omega,fun h2=>by omega,fun _=> .inl ⟨rfl,rfl⟩,fun h2=>by omega⟩,.inl rfl,st⟩)⟩
         ·have hk14:k=14:=by omega
          obtain ⟨rfl,hq,f1,s1,po,hg,st2⟩:=hh
          replace st:=(st.trans st2).sel 7 [6,0,3,4]
          simp only [BU,BV,An]at st
          refine B3 ?_
          refine xj st 0 fun hp st=> ?_
          simp only [z0,z1]at st
          refine AO ?_
          exact ⟨10,rfl,.inr (.inr ⟨f1,id,en,s1,po,_,_,[l0,l],hg,⟨fun _ _ h1=>absurd hk14 h1,fun h2=>by omega,fun h2=>by omega,fun _=> .inr ⟨by omega,rfl⟩,fun h2=>by omega⟩,.inl rfl,st⟩)⟩
end Go.Bn
end

section
namespace Go.Bn
open Go Proofs
@[reducible] def Ce (e:Nat) (vd vs vn vf:Value) (r po:Bool):List Value:=[nV e,vd,vs,vn,vf,.bool r,.bool po]
def K0 (cs:List Value) (e:Nat):Prop:=cs.length=7∧cs[0]? =some (nV e)∧∀u∈cs,Value.one u=true
theorem Gi {e:Nat} {vd vs vn vf:Value} {r po:Bool} (h1:Value.one vd=true) (h2:Value.one vs=true) (h3:Value.one vn=true) (h4:Value.one vf=true):K0 (Ce e vd vs vn vf r po) e:=by
 refine ⟨rfl,rfl,fun u hu=> ?_⟩
 simp only [Ce,List.mem_cons,zl,or_false]at hu
 rcases hu with rfl | rfl | rfl | rfl | rfl | rfl | rfl
 ·rfl
 ·exact h1
 ·exact h2
 ·exact h3
 ·exact h4
 ·rfl
 ·rfl
theorem QK {B q pa px ps p cap id en n c:Nat} {k lv cn cf:Int} {A:Option Addr} {w vk:Value} {nm:List UInt8} {s:AQ} {l:List AS} {f:Fs} {F:List AE} {h0:AA} (st0:St B h0 h0 (pt q 51 (BX p (AM pa))::B9 pa px ps p cap id en s false true w (mems l) f F)) (hR:J5 f id l) (hk:8≤k∧k≤10):
  AG Tryz.prog 18 [AM q,.agg (BK k nm A n c lv vk cn cf).toArray] h0 fun v h'=>(∃cs e,v= .agg cs.toArray∧K0 cs e)∧AV h0 h':=by
 have hM:=hR.log.mems.1
 have st:=St.start h0
 refine Ac Tryz.func18 rfl fun _=>AB ?_
 refine xb (us:=BK k nm A n c lv vk cn cf) st fun p3 hp st=> ?_
 refine xn st fun p4 hp st=>AH ?_
 refine xc st 1 0 ?_
 refine AO ?_
 refine AK rfl (fun h=> ?_) (fun h=> ?_)
 ·refine AH ?_
  refine xc (st0.ext st.low) 0 2 ?_
  refine AC ?_
  refine xc st 1 1 ?_
  refine xk (Xk (nm:=nm) ((st0.ext st.low).here.tail) hR) rfl ?_
  rintro _ hp2 ⟨⟨A2,n2,c2,e,rfl⟩,hx2⟩
  replace st:=st.ext hx2
  refine BP ?_
  refine xa (AZ (ps:=[(0,nV e),(1,.slice A2 n2 c2)]) (cs:=(Ce e (.slice A2 n2 c2) (nV 0) (.slice none 0 0) (.slice none 0 0) false false).toArray) rfl (by kernel_rfl)) ?_
  refine xw (us:=Ce e (.slice A2 n2 c2) (nV 0) (.slice none 0 0) (.slice none 0 0) false false) st 0 (Gi rfl rfl rfl rfl).2.2 fun hp st=> ?_
  simp only [z0]at st
  refine AC ?_
  refine Af (.cons (Ax (vs:=Ce e (.slice A2 n2 c2) (nV 0) (.slice none 0 0) (.slice none 0 0) false false) rfl rfl rfl (st.cells 0 rfl)) .nil) ?_
  exact ⟨⟨_,e,rfl,Gi rfl rfl rfl rfl⟩,st.low⟩
 ·refine AH ?_
  refine AK rfl (fun h=> ?_) (fun h=> ?_)
  ·refine AC ?_
   refine HV (Ck [(6,.grow),(10,.grow)]) [0,1,2,3,4,5] 6 [7,8,9,10,11,12] 10 [6,7,8,9,11,12] (by kernel_rfl) (by kernel_rfl) rfl rfl rfl (AF ?_)
   refine xc (st0.ext st.low) 0 2 ?_
   refine AC ?_
   refine xc st 1 1 ?_
   refine AC ?_
   refine HT (σ:=Nat×Av×Nat) (fun x=>[(3,AM p3),(4,AM p4),(7,AM x.1),(8,nV x.2.2)]) (fun x hp=>St h0.size h0 hp [pt x.1 92 (AY x.2.1),pt p4 38 (Ce 0 (.slice none 0 0) (nV 0) (.slice none 0 0) (.slice none 0 0) false false)]) ?_ ?_ ?_
   ·refine BW (CT (OZ (nm:=nm) ((st0.ext st.low).here.tail) hR.log) rfl (by kernel_rfl)) rfl rfl rfl (fun _ _ h=>h.2) ?_
    rintro _ hp2 ⟨⟨m,e,rfl,_⟩,hx2⟩
    replace st:=st.ext hx2
    refine AF ?_
    refine BW (CK rfl) rfl rfl rfl (fun _ _ ⟨_,_,h⟩=>h.1) ?_
    rintro _ hp ⟨p7,rfl,hnew⟩
    replace st:=st.new hnew
    refine xw (us:=AY m) st 0 (Cl _) fun hp st=> ?_
    simp only [z0]at st
    refine AB ?_
    exact C7 (p7,m,e) (Bt rfl rfl rfl rfl) (st.sel 3 [0,1])
   ·refine BW (CK rfl) rfl rfl rfl (fun _ _ ⟨_,_,h⟩=>h.1) ?_
    rintro _ hp ⟨p7,rfl,hnew⟩
    replace st:=st.new hnew
    refine BW (CT (OZ (nm:=nm) ((st0.ext st.low).here.tail) hR.log) rfl (by kernel_rfl)) rfl rfl rfl (fun _ _ h=>h.2) ?_
    rintro _ hp2 ⟨⟨m,e,rfl,_⟩,hx2⟩
    replace st:=st.ext hx2
    refine AF ?_
    refine xw (us:=AY m) st 0 (Cl _) fun hp st=> ?_
    simp only [z0]at st
    refine AB ?_
    exact C7 (p7,m,e) (Bt rfl rfl rfl rfl) (st.sel 3 [0,1])
   rintro ⟨p7,m,e⟩ hp st
   simp only at st ⊢
   refine AJ ?_
   refine xc st 0 4 ?_
   refine xa (AZ (ps:=[(0,nV e),(2,nV m.size)]) (cs:=(Ce e (.slice none 0 0) (nV m.size) (.slice none 0 0) (.slice none 0 0) false false).toArray) rfl (by kernel_rfl)) ?_
   refine xw (us:=Ce e (.slice none 0 0) (nV m.size) (.slice none 0 0) (.slice none 0 0) false false) st 1 (Gi rfl rfl rfl rfl).2.2 fun hp st=> ?_
   simp only [z0,z1]at st
   refine AC ?_
   refine Af (.cons (Ax (vs:=Ce e (.slice none 0 0) (nV m.size) (.slice none 0 0) (.slice none 0 0) false false) rfl rfl rfl (st.cells 1 rfl)) .nil) ?_
   exact ⟨⟨_,e,rfl,Gi rfl rfl rfl rfl⟩,st.low⟩
  ·refine AO ?_
   refine xc (st0.ext st.low) 0 2 ?_
   refine AC ?_
   refine xc st 1 1 ?_
   refine xk (Xm (nd:=nm) ((st0.ext st.low).here.tail) hM) rfl ?_
   rintro _ hp2 ⟨⟨A2,n2,c2,rfl⟩,hx2⟩
   replace st:=st.ext hx2
   refine xa (AZ (ps:=[(3,.slice A2 n2 c2)]) (cs:=(Ce 0 (.slice none 0 0) (nV 0) (.slice A2 n2 c2) (.slice none 0 0) false false).toArray) rfl (by kernel_rfl)) ?_
   refine xw (us:=Ce 0 (.slice none 0 0) (nV 0) (.slice A2 n2 c2) (.slice none 0 0) false false) st 0 (Gi rfl rfl rfl rfl).2.2 fun hp st=> ?_
   simp only [z0]at st
   refine AC ?_
   refine Af (.cons (Ax (vs:=Ce 0 (.slice none 0 0) (nV 0) (.slice A2 n2 c2) (.slice none 0 0) false false) rfl rfl rfl (st.cells 0 rfl)) .nil) ?_
   exact ⟨⟨_,0,rfl,Gi rfl rfl rfl rfl⟩,st.low⟩
end Go.Bn
end

section
namespace Go.Bn
open Go Proofs
theorem dN {B q p cap i:Nat} {d:Dk} {s:AQ} {l:List AS} {f:Fs} {F:List AE} {h0:AA} (st0:St B h0 h0 (pt q 51 (BX p (.pointer none))::BF p cap f::F)) (hq:f.quiet=true) (hN:f.now B7=some i) (hd:f.dk[i]? =some d) (hok:d.ok) (hdS:d.safe.length≤10000) (hG:Et d.now l s) (hL:B4 l):
  AG Tryz.prog 23 [AM q] h0 fun v h'=>∃pa px ps w A6 n6 c6,v= .agg (Ce 0 (.slice none 0 0) (nV 0) (.slice none 0 0) (.slice A6 n6 c6) false false).toArray∧St B h0 h' (Gn (.slice A6 n6 c6) (Bl l)::pt q 51 (BX p (AM pa))::B9 pa px ps p cap i (1024+(AX l).length) s false true w (mems l) (f.setD i d.sync).syncD F):=by
 have st:=st0
 refine BE Tryz.func23 rfl fun _=>AB ?_
 refine xn st fun p2 hp st=>AO ?_
 refine xc st 1 2 ?_
 refine Aj ?_
 refine xc st 1 0 ?_
 refine AF ?_
 refine xc st 1 1 ?_
 refine xk (Xn (F:=pt p2 38 (Ce 0 (.slice none 0 0) (nV 0) (.slice none 0 0) (.slice none 0 0) false false)::pt q 51 (BX p (.pointer none))::F) (st.here.sel 3 [2,0,1]) hq hN hd hok hdS hG hL) rfl ?_
 rintro _ hp2 ⟨pa,px,ps,w,rfl,st2⟩
 replace st:=st.trans st2
 refine Hp ?_
 refine xj st 6 fun hp st=> ?_
 simp only [z0,z1]at st
 refine AJ ?_
 refine xk (RY (st.here) ⟨hL,d.sync,Fs.setD_get hd,hG.log,hG.fits⟩) rfl ?_
 rintro _ hp3 ⟨w3,rfl,st3⟩
 replace st:=st.join st3
 simp only [z5,z4]at st
 obtain ⟨ws,hws,st⟩:=St.files st
 obtain ⟨A6,n6,c6,rfl,_⟩:=st.row 0 rfl
 refine Aj ?_
 refine xa (AZ (ps:=[(4,.slice A6 n6 c6)]) (cs:=(Ce 0 (.slice none 0 0) (nV 0) (.slice none 0 0) (.slice A6 n6 c6) false false).toArray) rfl (by kernel_rfl)) ?_
 refine xw (us:=Ce 0 (.slice none 0 0) (nV 0) (.slice none 0 0) (.slice A6 n6 c6) false false) st 7 (Gi rfl rfl rfl rfl).2.2 fun hp st=> ?_
 simp only [z0,z1]at st
 refine AC ?_
 refine Af (.cons (Ax (vs:=Ce 0 (.slice none 0 0) (nV 0) (.slice none 0 0) (.slice A6 n6 c6) false false) rfl rfl rfl (st.cells 7 rfl)) .nil) ?_
 exact ⟨pa,px,ps,w,A6,n6,c6,rfl,(St.filesI st).sel 8 [0,7,1,2,3,4,5]⟩
end Go.Bn
end

section
namespace Go.Bn
open Go Proofs
@[reducible] def Cd (e:Nat):List Value:=Ce e (.slice none 0 0) (nV 0) (.slice none 0 0) (.slice none 0 0) false false
theorem HA (e:Nat):∀u∈Cd e,Value.one u=true:=(Gi rfl rfl rfl rfl).2.2
theorem dR {B q p cap S n c:Nat} {nm:List UInt8} {A:Option Addr} {lv cn cf:Int} {vk:Value} {F:List AE} {h0:AA} (st0:St B h0 h0 (pt q 51 (BX p (.pointer none))::BF p cap Dh::F)) (hS:3≤S∧2*S≤cap) (hcap:cap≤65536):
  AG Tryz.prog 17 [AM q,.agg (BK 1 nm A n c lv vk cn cf).toArray] h0 fun v h'=>v=Al [.agg (Cd 0).toArray,.bool true]∧St B h0 h' (pt q 51 (BX p (.pointer none))::BF p cap (EG Dh (CE []))::F):=by
 have st:=st0
 refine Ac Tryz.func17 rfl fun _=>AB ?_
 refine xb (us:=BK 1 nm A n c lv vk cn cf) st fun p3 hp st=> ?_
 refine xn st fun p4 hp st=>AL ?_
 refine xc st 1 0 ?_
 refine B3 ?_
 refine xc st 2 0 ?_
 refine AF ?_
 refine xc st 2 1 ?_
 refine xk (Xd (S:=S) (F:=pt p4 38 (Cd 0)::pt p3 28 (BK 1 nm A n c lv vk cn cf)::pt q 51 (BX p (.pointer none))::F) (st.here.sel 4 [3,0,1,2]) hS hcap) rfl ?_
 rintro _ hp2 ⟨rfl,st2⟩
 replace st:=st.trans st2
 refine xa (AZ (ps:=[(0,nV 0)]) (cs:=(Cd 0).toArray) rfl (by kernel_rfl)) ?_
 refine xw (us:=Cd 0) st 1 (HA 0) fun hp st=> ?_
 simp only [z0,z1]at st
 refine AB ?_
 refine Af (.cons (Ax (vs:=Cd 0) rfl rfl rfl (st.cells 1 rfl)) (.cons (.tmp rfl) .nil)) ?_
 exact ⟨rfl,st.sel 4 [3,0]⟩
theorem dT {B q p cap i n c:Nat} {nm:List UInt8} {A:Option Addr} {lv cn cf:Int} {vk:Value} {d:Dk} {s:AQ} {l:List AS} {f:Fs} {F:List AE} {h0:AA} (st0:St B h0 h0 (pt q 51 (BX p (.pointer none))::BF p cap f::F)) (hq:f.quiet=true) (hN:f.now B7=some i) (hd:f.dk[i]? =some d) (hok:d.ok) (hdS:d.safe.length≤10000) (hG:Et d.now l s) (hL:B4 l):
  AG Tryz.prog 17 [AM q,.agg (BK 2 nm A n c lv vk cn cf).toArray] h0 fun v h'=>∃pa px ps w A6 n6 c6,v=Al [.agg (Ce 0 (.slice none 0 0) (nV 0) (.slice none 0 0) (.slice A6 n6 c6) false false).toArray,.bool true]∧St B h0 h' (Gn (.slice A6 n6 c6) (Bl l)::pt q 51 (BX p (AM pa))::B9 pa px ps p cap i (1024+(AX l).length) s false true w (mems l) (f.setD i d.sync).syncD F):=by
 have st:=st0
 refine Ac Tryz.func17 rfl fun _=>AB ?_
 refine xb (us:=BK 2 nm A n c lv vk cn cf) st fun p3 hp st=> ?_
 refine xn st fun p4 hp st=>AL ?_
 refine xc st 1 0 ?_
 refine EY ?_
 refine xk (dN (F:=pt p4 38 (Cd 0)::pt p3 28 (BK 2 nm A n c lv vk cn cf)::F) (st.here.sel 4 [2,3,0,1]) hq hN hd hok hdS hG hL) rfl ?_
 rintro _ hp2 ⟨pa,px,ps,w,A6,n6,c6,rfl,st2⟩
 replace st:=st.trans st2
 refine xw (us:=Ce 0 (.slice none 0 0) (nV 0) (.slice none 0 0) (.slice A6 n6 c6) false false) st 7 (Gi rfl rfl rfl rfl).2.2 fun hp st=> ?_
 simp only [z0,z1]at st
 refine AB ?_
 refine Af (.cons (Ax (vs:=Ce 0 (.slice none 0 0) (nV 0) (.slice none 0 0) (.slice A6 n6 c6) false false) rfl rfl rfl (st.cells 7 rfl)) (.cons (.tmp rfl) .nil)) ?_
 exact ⟨pa,px,ps,w,A6,n6,c6,rfl,st.sel 9 [0,1,2,3,4,5,6]⟩
theorem dS {B q p cap n c:Nat} {nm:List UInt8} {A:Option Addr} {lv cn cf:Int} {vk va:Value} {f:Fs} {F:List AE} {h0:AA} (st0:St B h0 h0 (pt q 51 (BX p va)::BF p cap f::F)) (hlv:0≤lv∧lv≤255):
  AG Tryz.prog 17 [AM q,.agg (BK 17 nm A n c lv vk cn cf).toArray] h0 fun v h'=>v=Al [.agg (Cd 0).toArray,.bool true]∧St B h0 h' (pt q 51 (BX p va)::BF p cap {f with quiet:=false}::F):=by
 have st:=st0
 refine Ac Tryz.func17 rfl fun _=>AB ?_
 refine xb (us:=BK 17 nm A n c lv vk cn cf) st fun p3 hp st=> ?_
 refine xn st fun p4 hp st=>AL ?_
 refine xc st 1 0 ?_
 refine RI ?_
 refine xa (Ai (vs:=BK 17 nm A n c lv vk cn cf) (st.cells 1 rfl) rfl rfl rfl rfl) ?_
 refine xk (dW (F:=pt p4 38 (Cd 0)::pt p3 28 (BK 17 nm A n c lv vk cn cf)::F) (st.here.sel 4 [2,3,0,1]) hlv) rfl ?_
 rintro _ hp2 st2
 replace st:=st.trans st2
 refine AJ ?_
 refine xa (AZ (ps:=[]) (cs:=(Cd 0).toArray) rfl (by kernel_rfl)) ?_
 refine xw (us:=Cd 0) st 2 (HA 0) fun hp st=> ?_
 simp only [z0,z1]at st
 refine AB ?_
 refine Af (.cons (Ax (vs:=Cd 0) rfl rfl rfl (st.cells 2 rfl)) (.cons (.tmp rfl) .nil)) ?_
 exact ⟨rfl,st.sel 4 [0,1]⟩
end Go.Bn
end

section
namespace Go.Bn
open Go Proofs
theorem dQ {B q p cap n c kn kc:Nat} {nm:List UInt8} {A Ak:Option Addr} {ks:List Bool} {lv cn cf:Int} {va:Value} {f:Fs} {F:List AE} {h0:AA} (st0:St B h0 h0 (pt q 51 (BX p va)::BF p cap f::F)) (hr:∀h' rs,St B h0 h' (rs++F)→Rd h' Ak (ks.map Value.bool)) (hl:ks.length=kn) (hkc:kn≤kc) (hs:∃k i,f.safe k=some i) (hkn:kn≤1048576):
  AG Tryz.prog 17 [AM q,.agg (BK 18 nm A n c lv (.slice Ak kn kc) cn cf).toArray] h0 fun v h'=>v=Al [.agg (Cd 0).toArray,.bool true]∧∃f',MV f f'∧St B h0 h' (pt q 51 (BX p (.pointer none))::BF p cap f'::F):=by
 have st:=st0
 refine Ac Tryz.func17 rfl fun _=>AB ?_
 refine xb (us:=BK 18 nm A n c lv (.slice Ak kn kc) cn cf) st fun p3 hp st=> ?_
 refine xn st fun p4 hp st=>AL ?_
 refine xc st 1 0 ?_
 refine XO ?_
 refine AF ?_
 refine xc st 2 0 ?_
 refine AC ?_
 refine xa (Ai (vs:=[.slice Ak kn kc,.int .i64 cn,.int .u8 cf]) (st.part 1 4 [.int .i64 18,AU nm,.slice A n c,.int .i64 lv] [.slice Ak kn kc,.int .i64 cn,.int .u8 cf] [] rfl rfl) rfl rfl rfl rfl) ?_
 refine xk (iA (F:=pt p4 38 (Cd 0)::pt p3 28 (BK 18 nm A n c lv (.slice Ak kn kc) cn cf)::pt q 51 (BX p va)::F) (st.here.sel 4 [3,0,1,2]) (fun h' rs s=>hr h' (rs++[_,_,_]) (by rw [z8];exact st.trans s)) hl hkc hs hkn) rfl ?_
 rintro _ hp2 ⟨f',hlost,st2⟩
 replace st:=st.trans st2
 refine AH ?_
 refine xj st 3 fun hp st=> ?_
 simp only [z0,z1]at st
 refine AJ ?_
 refine xa (AZ (ps:=[]) (cs:=(Cd 0).toArray) rfl (by kernel_rfl)) ?_
 refine xw (us:=Cd 0) st 1 (HA 0) fun hp st=> ?_
 simp only [z0,z1]at st
 refine AB ?_
 refine Af (.cons (Ax (vs:=Cd 0) rfl rfl rfl (st.cells 1 rfl)) (.cons (.tmp rfl) .nil)) ?_
 exact ⟨rfl,f',hlost,st.sel 4 [3,0]⟩
theorem VR {q n c:Nat} {nm:List UInt8} {A:Option Addr} {k lv cn cf:Int} {vk:Value} {h0:AA} (hk:3≤k∧k≤14):
  AG Tryz.prog 17 [AM q,.agg (BK k nm A n c lv vk cn cf).toArray] h0 fun v h'=>v=Al [.agg (Cd 1).toArray,.bool false]∧AV h0 h':=by
 have st:=St.start h0
 refine Ac Tryz.func17 rfl fun _=>AB ?_
 refine xb (us:=BK k nm A n c lv vk cn cf) st fun p3 hp st=> ?_
 refine xn st fun p4 hp st=>AL ?_
 refine xc st 1 0 ?_
 refine AH ?_
 refine AT (.bool false) (congrArg Value.bool (zu (by omega))) (AL ?_)
 refine AT (.bool false) (congrArg Value.bool (zu (by omega))) (AL ?_)
 refine AT (.bool false) (congrArg Value.bool (zu (by omega))) (AO ?_)
 refine AT (.bool false) (congrArg Value.bool (zu (by omega))) (AH ?_)
 refine AT (.bool false) (congrArg Value.bool (zu (by omega))) (AL ?_)
 refine AT (.bool false) (congrArg Value.bool (zu (by omega))) (AL ?_)
 refine xc st 1 0 ?_
 refine AC ?_
 refine AT (.bool false) (congrArg Value.bool (zu (by omega))) (AB ?_)
 refine xc st 1 0 ?_
 refine AC ?_
 refine AT (.bool false) (congrArg Value.bool (zu (by omega))) (AH ?_)
 refine xa (AZ (ps:=[(0,nV 1)]) (cs:=(Cd 1).toArray) rfl (by kernel_rfl)) (AC ?_)
 refine xw (us:=Cd 1) st 0 (HA 1) fun hp st=> ?_
 simp only [z0,z1]at st
 refine AB ?_
 refine Af (.cons (Ax (vs:=Cd 1) rfl rfl rfl (st.cells 0 rfl)) (.cons (.tmp rfl) .nil)) ?_
 exact ⟨rfl,st.low⟩
theorem dU {B q p cap i n c:Nat} {nm:List UInt8} {A:Option Addr} {lv cn cf:Int} {vk va:Value} {d:Dk} {s:AQ} {l:List AS} {f:Fs} {F:List AE} {h0:AA} (st0:St B h0 h0 (pt q 51 (BX p va)::BF p cap f::F)) (hN:f.now B7=some i) (hd:f.dk[i]? =some d) (hok:d.ok) (hdS:d.safe.length≤2000) (hG:Et d.now l s) (hL:B4 l):
  AG Tryz.prog 17 [AM q,.agg (BK 15 nm A n c lv vk cn cf).toArray] h0 fun v h'=>(∃vf,Value.one vf=true∧v=Al [.agg (Ce 0 (.slice none 0 0) (nV 0) (.slice none 0 0) vf false false).toArray,.bool true])∧AV h0 h':=by
 have st:=St.start h0
 refine Ac Tryz.func17 rfl fun _=>AB ?_
 refine xb (us:=BK 15 nm A n c lv vk cn cf) st fun p3 hp st=> ?_
 refine xn st fun p4 hp st=>AL ?_
 refine xc st 1 0 ?_
 refine IU ?_
 refine xk (Pd _) rfl ?_
 rintro _ hp1 ⟨rfl,hx1⟩
 replace st:=st.ext hx1
 refine xn st fun p6 hp st=> ?_
 refine BT (D3 (us:=Eh) st 0 rfl rfl rfl rfl (by rw [FG];rfl) Qu (by rw [FG];rfl)) rfl rfl fun _ hp st=> ?_
 simp only [z0]at st
 refine AB ?_
 refine HV (Ck [(8,.grow),(12,.grow)]) [0,1,2,3,4,5,6,7] 8 [9,10,11,12,13,14] 12 [8,9,10,11,13,14] (by kernel_rfl) (by kernel_rfl) rfl rfl rfl (AF ?_)
 refine xc (st0.ext st.low) 0 0 ?_
 refine AF ?_
 refine xc (st0.ext st.low) 0 1 ?_
 refine AC ?_
 have htab:=st.tab 0 rfl
 refine HT (σ:=Nat×List Value) (fun x=>[(3,AM p3),(4,AM p4),(7,AM x.1),(8,nV 0)]) (fun x hp=>x.2.length=8∧(∀u∈x.2,Value.one u=true)∧St h0.size h0 hp [pt x.1 83 x.2,pt p4 38 (Cd 0)]) ?_ ?_ ?_
 ·refine BW (CT (W4 ((st0.ext st.low).here.tail) (st.tab 0 rfl) hN hd hok hdS hG hL) rfl (by kernel_rfl)) rfl rfl rfl (fun _ _ h=>h.2) ?_
  rintro _ hp2 ⟨⟨cs,hcl,hc1,rfl⟩,hx2⟩
  replace st:=st.ext hx2
  refine AF ?_
  refine BW (CK rfl) rfl rfl rfl (fun _ _ ⟨_,_,h⟩=>h.1) ?_
  rintro _ hp ⟨p7,rfl,hnew⟩
  replace st:=st.new hnew
  refine BT (D3 (us:=cs) st 0 rfl rfl rfl rfl (by rw [hcl];rfl) hc1 (by rw [hcl];rfl)) rfl rfl fun _ hp st=> ?_
  simp only [z0]at st
  refine AB ?_
  exact C7 (p7,cs) (Bt rfl rfl rfl rfl) ⟨hcl,hc1,st.sel 4 [0,2]⟩
 ·refine BW (CK rfl) rfl rfl rfl (fun _ _ ⟨_,_,h⟩=>h.1) ?_
  rintro _ hp ⟨p7,rfl,hnew⟩
  replace st:=st.new hnew
  refine BW (CT (W4 ((st0.ext st.low).here.tail) (st.tab 1 rfl) hN hd hok hdS hG hL) rfl (by kernel_rfl)) rfl rfl rfl (fun _ _ h=>h.2) ?_
  rintro _ hp2 ⟨⟨cs,hcl,hc1,rfl⟩,hx2⟩
  replace st:=st.ext hx2
  refine AF ?_
  refine BT (D3 (us:=cs) st 0 rfl rfl rfl rfl (by rw [hcl];rfl) hc1 (by rw [hcl];rfl)) rfl rfl fun _ hp st=> ?_
  simp only [z0]at st
  refine AB ?_
  exact C7 (p7,cs) (Bt rfl rfl rfl rfl) ⟨hcl,hc1,st.sel 4 [0,2]⟩
 rintro ⟨p7,cs⟩ hp ⟨hcl,hc1,st⟩
 simp only at st hcl hc1 ⊢
 obtain ⟨vf,hvf⟩:∃vf,cs[5]? =some vf:=⟨_,z9 (by omega)⟩
 have hv1:=hc1 vf (List.mem_of_getElem? hvf)
 refine AJ ?_
 refine xl (st.cell 0 (i:=5) rfl hvf) rfl ?_
 refine xa (AZ (ps:=[(0,nV 0),(4,vf)]) (cs:=(Ce 0 (.slice none 0 0) (nV 0) (.slice none 0 0) vf false false).toArray) rfl (by cases vf <;> first | (cases hv1;done) | kernel_rfl)) ?_
 refine xw (us:=Ce 0 (.slice none 0 0) (nV 0) (.slice none 0 0) vf false false) st 1 (Gi rfl rfl rfl hv1).2.2 fun hp st=> ?_
 simp only [z0,z1]at st
 refine AB ?_
 refine Af (.cons (Ax (vs:=Ce 0 (.slice none 0 0) (nV 0) (.slice none 0 0) vf false false) rfl rfl rfl (st.cells 1 rfl)) (.cons (.tmp rfl) .nil)) ?_
 exact ⟨⟨vf,hv1,rfl⟩,st.low⟩
end Go.Bn
end

section
namespace Go.Bn
open Go Proofs
theorem ct {B q n c:Nat} {k lv cn cf:Int} {A:Option Addr} {vk:Value} {nm:List UInt8} {X F:List AE} {P:List Value→List AE→Prop} {h0:AA} (st0:St B h0 h0 (X++F)) (hvk:Value.one vk=true)
  (hout:∀ (F':List AE) (h1:AA),BC B h0 h1→St B h1 h1 (X++F')→AG Tryz.prog 17 [AM q,.agg (BK k nm A n c lv vk cn cf).toArray] h1 fun v h'=>∃cs Y,P cs Y∧cs.length=7∧(∀u∈cs,Value.one u=true)∧v=Al [.agg cs.toArray,.bool true]∧St B h1 h' (Y++F')):
  AG Tryz.prog 13 [AM q,.agg (BK k nm A n c lv vk cn cf).toArray] h0 fun v h'=>∃cs Y,P cs Y∧cs.length=7∧(∀u∈cs,Value.one u=true)∧v= .agg cs.toArray∧St B h0 h' (Y++F):=by
 have st:=st0
 have ho1:∀u∈BK k nm A n c lv vk cn cf,Value.one u=true:=by
  intro u hu
  simp only [BK,List.mem_cons,zl,or_false]at hu
  rcases hu with rfl | rfl | rfl | rfl | rfl | rfl | rfl <;> first | rfl | exact hvk
 refine Ac Tryz.func13 rfl fun _=>AB ?_
 refine xb (us:=BK k nm A n c lv vk cn cf) st fun p3 hp st=> ?_
 refine xn st fun p4 hp st=>AJ ?_
 refine xa (Ai (vs:=BK k nm A n c lv vk cn cf) (st.cells 1 rfl) rfl rfl rfl rfl) ?_
 refine xk (hout (pt p4 38 (Cd 0)::pt p3 28 (BK k nm A n c lv vk cn cf)::F) _ st.low (st.here.perm ((zb [_,_] X F)))) rfl ?_
 rintro _ hp2 ⟨cs,Y,hP,hcl,hc1,rfl,st2⟩
 have st3:=(st.perm (zb [_,_] X F)).trans st2
 have st:=st3.perm (zb Y [pt p4 38 (Cd 0),pt p3 28 (BK k nm A n c lv vk cn cf)] F)
 simp only [z5,z4]at st
 refine AF ?_
 refine xn st fun p5 hp st=> ?_
 refine BT (D3 (us:=cs) st 0 rfl rfl rfl rfl (by rw [hcl];rfl) hc1 (by rw [hcl];rfl)) rfl rfl fun _ hp st=> ?_
 simp only [z0]at st
 refine By ?_
 refine xa (Ai (vs:=cs) (st.cells 0 rfl) rfl rfl hcl rfl) ?_
 refine BT (D3 (us:=cs) st 1 rfl rfl rfl rfl (by rw [hcl];rfl) hc1 (by rw [hcl];rfl)) rfl rfl fun _ hp st=> ?_
 simp only [z0,z1]at st
 refine AC ?_
 refine Af (.cons (Ax (vs:=cs) rfl rfl hcl (st.cells 1 rfl)) .nil) ?_
 exact ⟨cs,Y,hP,hcl,hc1,rfl,st.tail.tail.tail⟩
end Go.Bn
end

section
namespace Go.Bn
open Go Proofs
theorem cr {B q p pa n c:Nat} {k lv cn cf:Int} {A:Option Addr} {vk:Value} {nm:List UInt8} {X F:List AE} {P:Nat→List AE→Prop} {h0:AA} (st0:St B h0 h0 (pt q 51 (BX p (AM pa))::(X++F))) (hk:(3≤k∧k≤7)∨(11≤k∧k≤14))
  (hch:∀ (F':List AE) (h1:AA),BC B h0 h1→St B h1 h1 (pt q 51 (BX p (AM pa))::(X++F'))→AG Tryz.prog 19 [AM q,.agg (BK k nm A n c lv vk cn cf).toArray] h1 fun v h'=>∃e Y,P e Y∧v=nV e∧St B h1 h' (Y++F')):
  AG Tryz.prog 13 [AM q,.agg (BK k nm A n c lv vk cn cf).toArray] h0 fun v h'=>∃e Y,P e Y∧v= .agg (Cd e).toArray∧St B h0 h' (Y++F):=by
 have st:=st0
 refine Ac Tryz.func13 rfl fun _=>AB ?_
 refine xb (us:=BK k nm A n c lv vk cn cf) st fun p3 hp st=> ?_
 refine xn st fun p4 hp st=>AJ ?_
 refine xa (Ai (vs:=BK k nm A n c lv vk cn cf) (st.cells 1 rfl) rfl rfl rfl rfl) ?_
 refine xk (VR (by omega)) rfl ?_
 rintro _ hp2 ⟨rfl,hx2⟩
 replace st:=st.ext hx2
 refine AF ?_
 refine xn st fun p5 hp st=> ?_
 refine xw (us:=Cd 1) st 0 (HA 1) fun hp st=> ?_
 simp only [z0]at st
 refine Cp ?_
 refine xc st 3 2 ?_
 refine AO ?_
 refine xc st 2 0 ?_
 refine AC ?_
 refine AT (.bool false) (congrArg Value.bool (zu (by omega))) (AB ?_)
 refine xc st 2 0 ?_
 refine AC ?_
 refine AT (.bool false) (congrArg Value.bool (zu (by omega))) (AF ?_)
 refine xc st 2 0 ?_
 refine AC ?_
 refine AT (.bool false) (congrArg Value.bool (zu (by omega))) (Aj ?_)
 refine xa (Ai (vs:=BK k nm A n c lv vk cn cf) (st.cells 2 rfl) rfl rfl rfl rfl) ?_
 refine xk (hch (pt p5 38 (Cd 1)::pt p4 38 (Cd 0)::pt p3 28 (BK k nm A n c lv vk cn cf)::F) _ st.low (st.here.perm (zb [_,_,_] (pt q 51 (BX p (AM pa))::X) F))) rfl ?_
 rintro _ hp3 ⟨e,Y,hP,rfl,st2⟩
 have st3:=(st.perm (zb [_,_,_] (pt q 51 (BX p (AM pa))::X) F)).trans st2
 have st:=st3.perm (zb Y [pt p5 38 (Cd 1),pt p4 38 (Cd 0),pt p3 28 (BK k nm A n c lv vk cn cf)] F)
 simp only [z5,z4]at st
 refine xa (AZ (ps:=[(0,nV e)]) (cs:=(Cd e).toArray) rfl (by kernel_rfl)) ?_
 refine xw (us:=Cd e) st 1 (HA e) fun hp st=> ?_
 simp only [z0,z1]at st
 refine AC ?_
 refine Af (.cons (Ax (vs:=Cd e) rfl rfl rfl (st.cells 1 rfl)) .nil) ?_
 exact ⟨e,Y,hP,rfl,st.tail.tail.tail⟩
end Go.Bn
end

section
namespace Go.Bn
open Go Proofs
theorem cu {B q pa px ps p cap id en n c:Nat} {k lv cn cf:Int} {A:Option Addr} {w vk:Value} {nm:List UInt8} {s:AQ} {l:List AS} {f:Fs} {F:List AE} {h0:AA} (st0:St B h0 h0 (pt q 51 (BX p (AM pa))::B9 pa px ps p cap id en s false true w (mems l) f F)) (hR:J5 f id l) (hk:8≤k∧k≤10):
  AG Tryz.prog 13 [AM q,.agg (BK k nm A n c lv vk cn cf).toArray] h0 fun v h'=>∃cs e,v= .agg cs.toArray∧K0 cs e∧St B h0 h' (pt q 51 (BX p (AM pa))::B9 pa px ps p cap id en s false true w (mems l) f F):=by
 have st:=st0
 refine Ac Tryz.func13 rfl fun _=>AB ?_
 refine xb (us:=BK k nm A n c lv vk cn cf) st fun p3 hp st=> ?_
 refine xn st fun p4 hp st=>AJ ?_
 refine xa (Ai (vs:=BK k nm A n c lv vk cn cf) (st.cells 1 rfl) rfl rfl rfl rfl) ?_
 refine xk (VR (by omega)) rfl ?_
 rintro _ hp2 ⟨rfl,hx2⟩
 replace st:=st.ext hx2
 refine AF ?_
 refine xn st fun p5 hp st=> ?_
 refine xw (us:=Cd 1) st 0 (HA 1) fun hp st=> ?_
 simp only [z0]at st
 refine Cp ?_
 refine xc st 3 2 ?_
 refine AO ?_
 refine xc st 2 0 ?_
 refine AB ?_
 refine Am 27 rfl (fun h=> ?_) (fun h=> ?_)
 ·refine Cp ?_
  refine xa (Ai (vs:=BK k nm A n c lv vk cn cf) (st.cells 2 rfl) rfl rfl rfl rfl) ?_
  refine xk (QK st.here.tail.tail.tail hR hk) rfl ?_
  rintro _ hp3 ⟨⟨cs,e,rfl,hcs⟩,hx3⟩
  replace st:=st.ext hx3
  refine BT (D3 (us:=cs) st 1 rfl rfl rfl rfl (by rw [hcs.1];rfl) hcs.2.2 (by rw [hcs.1];rfl)) rfl rfl fun _ hp st=> ?_
  simp only [z0,z1]at st
  refine AC ?_
  refine Af (.cons (Ax (vs:=cs) rfl rfl hcs.1 (st.cells 1 rfl)) .nil) ?_
  exact ⟨cs,e,rfl,hcs,st.tail.tail.tail⟩
 ·refine AC ?_
  refine xc st 2 0 ?_
  refine AF ?_
  refine Am 32 rfl (fun h=> ?_) (fun h=> ?_)
  ·refine BP ?_
   refine xa (Ai (vs:=BK k nm A n c lv vk cn cf) (st.cells 2 rfl) rfl rfl rfl rfl) ?_
   refine xk (QK st.here.tail.tail.tail hR hk) rfl ?_
   rintro _ hp3 ⟨⟨cs,e,rfl,hcs⟩,hx3⟩
   replace st:=st.ext hx3
   refine BT (D3 (us:=cs) st 1 rfl rfl rfl rfl (by rw [hcs.1];rfl) hcs.2.2 (by rw [hcs.1];rfl)) rfl rfl fun _ hp st=> ?_
   simp only [z0,z1]at st
   refine AC ?_
   refine Af (.cons (Ax (vs:=cs) rfl rfl hcs.1 (st.cells 1 rfl)) .nil) ?_
   exact ⟨cs,e,rfl,hcs,st.tail.tail.tail⟩
  ·refine AC ?_
   refine xc st 2 0 ?_
   refine AC ?_
   refine AT (.bool true) (congrArg Value.bool (decide_eq_true (by omega))) (AO ?_)
   refine xa (Ai (vs:=BK k nm A n c lv vk cn cf) (st.cells 2 rfl) rfl rfl rfl rfl) ?_
   refine xk (QK st.here.tail.tail.tail hR hk) rfl ?_
   rintro _ hp3 ⟨⟨cs,e,rfl,hcs⟩,hx3⟩
   replace st:=st.ext hx3
   refine BT (D3 (us:=cs) st 1 rfl rfl rfl rfl (by rw [hcs.1];rfl) hcs.2.2 (by rw [hcs.1];rfl)) rfl rfl fun _ hp st=> ?_
   simp only [z0,z1]at st
   refine AC ?_
   refine Af (.cons (Ax (vs:=cs) rfl rfl hcs.1 (st.cells 1 rfl)) .nil) ?_
   exact ⟨cs,e,rfl,hcs,st.tail.tail.tail⟩
end Go.Bn
end

section
namespace Go.Bn
open Go Proofs
def Gd (q:Nat) (Y:List AE):Prop:=∃p cap f va Y2,Y.Perm (pt q 51 (BX p va)::BF p cap f::Y2)∧(va= .pointer none∨∃pa ps id en s po cs Y3,va=AM pa∧Y2.Perm (pt pa 75 cs::pt ps 100 (DC p pa id en s po)::Y3)∧HW ps cs)
theorem QL {B q n c:Nat} {k lv cn cf:Int} {A:Option Addr} {vk:Value} {nm:List UInt8} {X F:List AE} {P:List Value→List AE→Prop} {h0:AA} (st0:St B h0 h0 (X++F)) (hX:Gd q X) (hP:∀cs Y,P cs Y→Gd q Y)
  (hans:∀ (F':List AE) (h1:AA),BC B h0 h1→St B h1 h1 (X++F')→AG Tryz.prog 13 [AM q,.agg (BK k nm A n c lv vk cn cf).toArray] h1 fun v h'=>∃cs Y,P cs Y∧cs.length=7∧(∀u∈cs,Value.one u=true)∧v= .agg cs.toArray∧St B h1 h' (Y++F')):
  AG Tryz.prog 7 [AM q,.agg (BK k nm A n c lv vk cn cf).toArray] h0 fun v h'=>∃cs Y r po,P cs Y∧cs.length=7∧v= .agg ((cs.set 5 (.bool r)).set 6 (.bool po)).toArray∧St B h0 h' (Y++F):=by
 have st:=st0
 obtain ⟨p,cap,f,va,X2,hX1,_⟩:=hX
 refine Ac Tryz.func7 rfl fun _=>AB ?_
 refine xv (Bv (cs:=BK k nm A n c lv vk cn cf) rfl rfl) ?_
 rintro _ hp ⟨p3,rfl,hnew⟩
 replace st:=st.new hnew
 refine xv (CK rfl) ?_
 rintro _ hp ⟨p4,rfl,hnew⟩
 replace st:=(st.new hnew).perm (zb [_,_] X F)
 have sx:St B h0 hp (pt q 51 (BX p va)::BF p cap f::(X2++([_,_]++F))):=st.perm (hX1.append_right _)
 refine Bq ?_
 refine xc sx 0 0 ?_
 refine xk (RB sx.here.sw) rfl ?_
 rintro _ _ ⟨⟨a,b,rfl⟩,rfl⟩
 have st1:=st.perm (zb X [_,_] F)
 refine Aj ?_
 refine xa (Ai (vs:=BK k nm A n c lv vk cn cf) (st1.cells 1 rfl) rfl rfl rfl rfl) ?_
 refine xk (hans (pt p4 38 (Cd 0)::pt p3 28 (BK k nm A n c lv vk cn cf)::F) _ st.low st.here) rfl ?_
 rintro _ hp2 ⟨cs,Y,hPY,hcl,hc1,rfl,st2⟩
 replace st:=st.trans st2
 obtain ⟨p',cap',f',va',Y2,hY1,hY2⟩:=hP cs Y hPY
 clear sx st1 st2
 refine xv (CK rfl) ?_
 rintro _ hp ⟨p7,rfl,hnew⟩
 replace st:=st.new hnew
 refine BT (D3 (us:=cs) st 0 rfl rfl rfl rfl (by rw [hcl];rfl) hc1 (by rw [hcl];rfl)) rfl rfl fun _ hp st=> ?_
 simp only [z0]at st
 have sx:=st.tail.perm (hY1.append_right _)
 simp only [z5]at sx
 refine AL ?_
 refine xc sx 0 0 ?_
 refine xk (RB sx.here.sw) rfl ?_
 rintro _ _ ⟨⟨a2,b2,rfl⟩,rfl⟩
 refine By ?_
 refine BT (FE (i:=5) st 0 rfl rfl rfl (by rw [hcl];rfl) rfl rfl) rfl rfl fun _ hp st=> ?_
 simp only [z0]at st
 clear sx
 have sx:=st.tail.perm (hY1.append_right _)
 simp only [z5]at sx
 refine AL ?_
 refine xc sx 0 2 ?_
 refine hY2.elim (fun hv=> ?_) (fun hv=> ?_)
 ·subst hv
  refine Aj ?_
  refine BT (FE (i:=6) st 0 rfl rfl rfl (by rw [List.length_set,hcl];rfl) rfl rfl) rfl rfl fun _ hp st=> ?_
  simp only [z0]at st
  have st1:=st.perm ((zb Y [_,_] F).cons _)
  refine AF ?_
  refine xa (Ai (st1.cells 0 rfl) rfl rfl (by rw [List.length_set,List.length_set];exact hcl) rfl) ?_
  refine BT (D3 st1 1 rfl rfl rfl rfl (by rw [List.length_set,List.length_set,hcl];rfl) ?_ (by rw [List.length_set,List.length_set,hcl];rfl)) rfl rfl fun _ hp st=> ?_
  ·intro u hu
   rcases List.mem_or_eq_of_mem_set hu with hu | rfl
   ·rcases List.mem_or_eq_of_mem_set hu with hu | rfl
    ·exact hc1 u hu
    ·rfl
   ·rfl
  simp only [z0,z1]at st
  refine AC ?_
  refine Af (.cons (Ax rfl rfl (by rw [List.length_set,List.length_set];exact hcl) (st.cells 1 rfl)) .nil) ?_
  exact ⟨cs,Y,_,_,hPY,hcl,rfl,st.tail.tail.tail⟩
 ·obtain ⟨pa,ps,id,en,s,po,ca,Y3,rfl,hY3,hca⟩:=hv
  have sy:=sx.perm (((hY3.append_right _).cons _).cons _)
  simp only [z5]at sy
  refine AH ?_
  refine xc sx 0 2 ?_
  refine xk (Xo (sy.cell 2 (i:=259) rfl hca.2) (sy.cell 2 (i:=256) rfl hca.1) (sy.cell 3 (i:=9) rfl rfl)) rfl ?_
  rintro _ _ ⟨⟨b4,rfl⟩,rfl⟩
  refine AB ?_
  refine BT (FE (i:=6) st 0 rfl rfl rfl (by rw [List.length_set,hcl];rfl) rfl rfl) rfl rfl fun _ hp st=> ?_
  simp only [z0]at st
  have st1:=st.perm ((zb Y [_,_] F).cons _)
  refine AF ?_
  refine xa (Ai (st1.cells 0 rfl) rfl rfl (by rw [List.length_set,List.length_set];exact hcl) rfl) ?_
  refine BT (D3 st1 1 rfl rfl rfl rfl (by rw [List.length_set,List.length_set,hcl];rfl) ?_ (by rw [List.length_set,List.length_set,hcl];rfl)) rfl rfl fun _ hp st=> ?_
  ·intro u hu
   rcases List.mem_or_eq_of_mem_set hu with hu | rfl
   ·rcases List.mem_or_eq_of_mem_set hu with hu | rfl
    ·exact hc1 u hu
    ·rfl
   ·rfl
  simp only [z0,z1]at st
  refine AC ?_
  refine Af (.cons (Ax rfl rfl (by rw [List.length_set,List.length_set];exact hcl) (st.cells 1 rfl)) .nil) ?_
  exact ⟨cs,Y,_,_,hPY,hcl,rfl,st.tail.tail.tail⟩
end Go.Bn
end

section
namespace Go.Bn
open Go Proofs
theorem M9 {α:Type} {nm:α→List UInt8} {x:α}:∀ {L R:List α},(∀y∈L,B5 (nm y) (nm x)=true)→Bx nm x (L++R)=L++Bx nm x R
 | [],_,_=>rfl
 | y::r,R,h=>by
  have h0:=h y zp
  rw [z5,Bx,if_neg (by rw [NP h0];simp),if_neg (fun e=>by rw [e,Hh]at h0;cases h0),M9 fun z hz=>h z (zq _ hz)];rfl
theorem TO {α:Type} {nm:α→List UInt8} {x:α}:∀ {L R:List α},(∃z∈L,B5 (nm z) (nm x)=false)→Bx nm x (L++R)=Bx nm x L++R
 | [],_,⟨_,hz,_⟩=>by cases hz
 | y::r,R,⟨z,hz,hzx⟩=>by
  rw [z5,Bx,Bx]
  split
  ·rfl
  ·rename_i h1
   split
   ·rfl
   ·rename_i h2
    have h3:=KQ (by simpa using h1) h2
    have hzr:z∈r:=by
     rcases List.mem_cons.1 hz with rfl | h
     ·rw [h3]at hzx;cases hzx
     ·exact h
    rw [TO ⟨z,hzr,hzx⟩];rfl
abbrev FV:=List UInt8×List UInt8×Value
@[reducible] def fC (q:FV):List Value:=[AU q.1,q.2.2]
def DT (L:List FV):List Value:=L.flatMap fC
theorem Ig (L:List FV):(DT L).length=L.length*2:=EO fC 2 (fun _=>rfl) L
theorem LH (L:List FV) (q:FV):DT (L++[q])=DT L++fC q:=by simp [DT]
theorem aV (a b:List UInt8):(Go.Op.bytesLess a b||a==b)=decide (B5 b a=false):=by
 cases h:B5 a b with
 | true=>rw [NP h];simp only [B5]at h;simp [h]
 | false=>
  by_cases e:a=b
  ·subst e;rw [Hh];simp
  ·have h2:=KQ h e
   simp only [B5]at h h2 ⊢
   simp [h,h2,e]
theorem gj {n c:Nat} {A:Option Addr} {L:List FV} {nm dt:List UInt8} {h0:AA} (hr:Rd h0 A (DT L)) (hl:L.length=n) (hn:n≤1000) (hd:dt.length≤100000) (hone:∀q∈L,Value.one q.2.2=true) (hS:FK Prod.fst L):
  AG Tryz.prog 15 [.slice A n c,AU nm,AU dt] h0 fun v h'=>∃A2 n2 c2,St h0.size h0 h' [row 45 2 v (DT (Bx Prod.fst (nm,dt,Value.slice A2 n2 c2) L)),row 5 1 (.slice A2 n2 c2) (dt.map AN)]:=by
 have st:=St.start h0
 refine Bg Tryz.func15 rfl fun _=>By ?_
 refine xv (cU rfl rfl rfl rfl (by simp only [maxLen];omega)) ?_
 rintro v hp hnew
 replace st:=st.new hnew
 obtain ⟨A2,n2,c2,rfl,_⟩:=st.row 0 rfl
 refine xa (AZ (ps:=[(0,AU nm),(1,.slice A2 n2 c2)]) (cs:= #[AU nm,.slice A2 n2 c2]) rfl rfl) ?_
 refine xv (CK rfl) ?_
 rintro _ hp ⟨p8,rfl,hnew⟩
 replace st:=st.new hnew
 refine xw (us:=[AU nm,.slice A2 n2 c2]) st 0 (by simp [Value.one]) fun hp st=> ?_
 simp only [z0]at st
 obtain ⟨x,hx⟩:∃x:FV,(nm,dt,Value.slice A2 n2 c2)=x:=⟨_,rfl⟩
 have hxn:x.1=nm:=by rw [←hx]
 have hxc:fC x=[AU nm,.slice A2 n2 c2]:=by rw [←hx]
 have hx1:∀u∈fC x,Value.one u=true:=by rw [hxc];simp [Value.one]
 rw [←hxc]at st
 refine Bu ?_
 have st1:=st.nilrow 45 2
 refine BD (fun s=>n-s.1) (fun s=>[(0,.slice A n c),(1,AU nm),(7,s.2.2),(8,AM p8),(9,.bool (decide (s.2.1=true))),(10,nV s.1)])
  (fun (s:Nat×Bool×Value) hp=>s.1≤n∧(s.2.1=false→∀y∈L.take s.1,B5 y.1 nm=true)∧(s.2.1=true→∃z∈L.take s.1,B5 z.1 nm=false)∧St h0.size h0 hp [row 45 2 s.2.2 (DT (if s.2.1=true then Bx Prod.fst x (L.take s.1)else L.take s.1)),pt p8 45 (fC x),row 5 1 (.slice A2 n2 c2) (dt.map AN)])
  (0,false,.slice none 0 0) (CL rfl rfl rfl rfl rfl rfl) ⟨Nat.zero_le _,fun _ y hy=>by simp at hy,fun h=>(by cases h),st1⟩ ?_
 clear st st1 hnew
 rintro ⟨i,b,v7⟩ hp ⟨hi,hb0,hb1,st⟩
 simp only at hi hb0 hb1 st ⊢
 refine AP ?_
 refine AK rfl (fun h=> ?_) (fun h=> ?_)
 ·obtain ⟨y,hy⟩:∃y,L[i]'(by omega)=y:=⟨_,rfl⟩
  have hcy:∀h1:AA,AV h0 h1→∃bb o,A=some ⟨bb,o,none⟩∧∀j u,(fC y)[j]? =some u→Az h1 ⟨bb,o+i*2+j,none⟩=some u:=fun h1 hx1=>by
   obtain ⟨bb,o,e,hc⟩:=Rd.flat fC 2 (hr.ext hx1) (fun _=>rfl) (by omega) (by omega)
   exact ⟨bb,o,e,fun j u hu=>hc i (by omega) j u (by rw [hy];exact hu)⟩
  obtain ⟨bb,o,rfl,_⟩:=hcy h0 (BC.refl _ _)
  replace hcy:∀h1:AA,AV h0 h1→∀j u,(fC y)[j]? =some u→Az h1 ⟨bb,o+i*2+j,none⟩=some u:=fun h1 hx1=>by
   obtain ⟨_,_,e,hc⟩:=hcy h1 hx1
   cases e;exact hc
  have htk:L.take (i+1)=L.take i++[y]:=by rw [List.take_succ_eq_append_getElem (by omega),hy]
  have hSt:FK Prod.fst (L.take i++[y]):=by rw [←htk];exact hS.sublist (List.take_sublist _ _)
  have hzy:∀z∈L.take i,B5 z.1 y.1=true:=fun z hz=>(List.pairwise_append.1 hSt).2.2 z hz y (by simp)
  have hy1:Value.one y.2.2=true:=hone y (hy▸List.getElem_mem _)
  have hyo:∀u∈fC y,Value.one u=true:=fun u hu=>by
   simp only [fC,List.mem_cons,zl,or_false]at hu
   rcases hu with rfl | rfl
   ·rfl
   ·exact hy1
  have hfl:(DT (L.take i)).length≤2000:=by rw [Ig,z6];omega
  have hfi:(DT (Bx Prod.fst x (L.take i))).length≤2002:=by
   have:=NA (nm:=Prod.fst) (x:=x) (l:=L.take i)
   rw [Ig];rw [z6]at this;omega
  have hil:=NA (nm:=Prod.fst) (x:=x) (l:=L.take i)
  rw [z6]at hil
  obtain ⟨A7,n7,c7,rfl,_,_,_,_⟩:=st.row 0 rfl
  refine Aj ?_
  refine Am 23 rfl (fun h=> ?_) (fun h=> ?_)
  ·obtain rfl:b=false:=by cases b <;> first | rfl | exact absurd h (by decide)
   rw [if_neg Bool.false_ne_true]at st
   have hlt:=hb0 rfl
   refine AH ?_
   refine xl (hcy _ st.low 0 _ rfl) rfl ?_
   refine xa (cA (a:=nm) (b:=y.1) rfl rfl) ?_
   refine AT (.bool (decide (B5 y.1 nm=false))) (congrArg Value.bool (aV _ _)) (AB ?_)
   refine AK rfl (fun h=> ?_) (fun h=> ?_)
   ·have hle:=h
    refine AF ?_
    refine xa (Ai (vs:=fC x) (st.cells 1 rfl) rfl rfl rfl rfl) ?_
    refine xv (D4 (us:=fC x) rfl rfl rfl rfl (by kernel_rfl)) ?_
    rintro _ hp ⟨A8,rfl,hxx,hrd⟩
    replace st:=st.ext hxx
    refine BN (BY st 0 rfl hrd rfl hx1 (by simp only [fC,ze,zk];omega) rfl rfl rfl rfl rfl rfl rfl) rfl rfl rfl fun v hp st=> ?_
    simp only [z0]at st
    rw [←LH]at st
    obtain ⟨A7,n7,c7,rfl,_,_,_,_⟩:=st.row 0 rfl
    refine Bu ?_
    refine xl (hcy _ st.low 0 _ rfl) rfl (AF ?_)
    refine AK rfl (fun h=> ?_) (fun h=> ?_)
    ·refine AH ?_
     refine xa (Ai (vs:=fC y) (hcy _ st.low) rfl rfl rfl rfl) ?_
     refine xv (D4 (us:=fC y) rfl rfl rfl rfl (by kernel_rfl)) ?_
     rintro _ hp ⟨A9,rfl,hxx2,hrd2⟩
     replace st:=st.ext hxx2
     refine BN (BY st 0 rfl hrd2 rfl hyo (by simp only [Ig,z2,z6,fC,ze,zk];omega) rfl rfl rfl rfl rfl rfl rfl) rfl rfl rfl fun v hp st=> ?_
     simp only [z0]at st
     rw [←LH]at st
     refine AP ?_
     have e:L.take i++[x]++[y]=Bx Prod.fst x (L.take (i+1)):=by rw [htk,M9 (by rw [hxn];exact hlt),Bx,if_pos (by rw [hxn];exact KQ hle (by simpa using h)),z8];rfl
     rw [e]at st
     exact Ad (i+1,true,_) (CL rfl rfl rfl rfl rfl rfl) ⟨by simp only;omega,fun e=>(by cases e),fun _=>⟨y,by simp only;rw [htk];simp,hle⟩,st⟩ (by simp only;omega)
    ·have hyn:y.1=nm:=by simpa using h
     refine AO ?_
     have e:L.take i++[x]=Bx Prod.fst x (L.take (i+1)):=by rw [htk,M9 (by rw [hxn];exact hlt),Bx,if_neg (by rw [hxn,hyn,Hh];simp),if_pos (by rw [hxn,hyn])]
     rw [e]at st
     exact Ad (i+1,true,_) (CL rfl rfl rfl rfl rfl rfl) ⟨by simp only;omega,fun e=>(by cases e),fun _=>⟨y,by simp only;rw [htk];simp,hle⟩,st⟩ (by simp only;omega)
   ·have hgt:B5 y.1 nm=true:=by simpa using h
    refine AO ?_
    refine xl (hcy _ st.low 0 _ rfl) rfl (AF ?_)
    refine AK rfl (fun h=> ?_) (fun h=> ?_)
    ·refine AH ?_
     refine xa (Ai (vs:=fC y) (hcy _ st.low) rfl rfl rfl rfl) ?_
     refine xv (D4 (us:=fC y) rfl rfl rfl rfl (by kernel_rfl)) ?_
     rintro _ hp ⟨A9,rfl,hxx2,hrd2⟩
     replace st:=st.ext hxx2
     refine BN (BY st 0 rfl hrd2 rfl hyo (by simp only [Ig,z2,z6,fC,ze,zk];omega) rfl rfl rfl rfl rfl rfl rfl) rfl rfl rfl fun v hp st=> ?_
     simp only [z0]at st
     rw [←LH]at st
     refine AP ?_
     rw [←htk]at st
     exact Ad (i+1,false,_) (CL rfl rfl rfl rfl rfl rfl) ⟨by simp only;omega,fun _ z hz=>by
      simp only at hz
      rw [htk]at hz
      rcases List.mem_append.1 hz with hz | hz
      ·exact hlt z hz
      ·rw [zo.1 hz];exact hgt,fun e=>(by cases e),st⟩ (by simp only;omega)
    ·have he:y.1=nm:=by simpa using h
     rw [he,Hh]at hgt
     cases hgt
  ·obtain rfl:b=true:=by cases b <;> first | rfl | exact absurd rfl h | exact absurd (by decide) h
   rw [if_pos rfl]at st
   obtain ⟨z,hz,hzx⟩:=hb1 rfl
   refine EY ?_
   refine xl (hcy _ st.low 0 _ rfl) rfl (AF ?_)
   refine AK rfl (fun h=> ?_) (fun h=> ?_)
   ·refine AH ?_
    refine xa (Ai (vs:=fC y) (hcy _ st.low) rfl rfl rfl rfl) ?_
    refine xv (D4 (us:=fC y) rfl rfl rfl rfl (by kernel_rfl)) ?_
    rintro _ hp ⟨A9,rfl,hxx2,hrd2⟩
    replace st:=st.ext hxx2
    refine BN (BY st 0 rfl hrd2 rfl hyo (by simp only [Ig,z2,z6,fC,ze,zk];omega) rfl rfl rfl rfl rfl rfl rfl) rfl rfl rfl fun v hp st=> ?_
    simp only [z0]at st
    rw [←LH]at st
    refine AP ?_
    rw [←TO ⟨z,hz,by rw [hxn];exact hzx⟩,←htk]at st
    exact Ad (i+1,true,_) (CL rfl rfl rfl rfl rfl rfl) ⟨by simp only;omega,fun e=>(by cases e),fun _=>⟨z,by simp only;rw [htk];exact List.mem_append_left _ hz,hzx⟩,st⟩ (by simp only;omega)
   ·have he:y.1=nm:=by simpa using h
    have h1:=hzy z hz
    rw [he,hzx]at h1
    cases h1
 ·have htk:L.take i=L:=za (by omega)
  rw [htk]at st hb0 hb1
  have hfL:(DT L).length≤2000:=by rw [Ig];omega
  obtain ⟨A7,n7,c7,rfl,_,_,_,_⟩:=st.row 0 rfl
  refine AO ?_
  refine AK rfl (fun h=> ?_) (fun h=> ?_)
  ·obtain rfl:b=false:=by cases b <;> first | rfl | exact absurd rfl h | exact absurd h (by decide)
   rw [if_neg Bool.false_ne_true]at st
   refine AB ?_
   refine xa (Ai (vs:=fC x) (st.cells 1 rfl) rfl rfl rfl rfl) ?_
   refine xv (D4 (us:=fC x) rfl rfl rfl rfl (by kernel_rfl)) ?_
   rintro _ hp ⟨A8,rfl,hxx,hrd⟩
   replace st:=st.ext hxx
   refine BN (BY st 0 rfl hrd rfl hx1 (by simp only [fC,ze,zk];omega) rfl rfl rfl rfl rfl rfl rfl) rfl rfl rfl fun v hp st=> ?_
   simp only [z0]at st
   rw [←LH]at st
   refine AP ?_
   have e:L++[x]=Bx Prod.fst x L:=by
    have:=M9 (nm:=Prod.fst) (x:=x) (L:=L) (R:=[]) (by rw [hxn];exact hb0 rfl)
    rw [List.append_nil]at this
    rw [this];rfl
   rw [e,←hx]at st
   exact ⟨A2,n2,c2,st.sel 3 [0,2]⟩
  ·obtain rfl:b=true:=by cases b <;> first | rfl | exact absurd rfl h | exact absurd h (by decide)
   rw [if_pos rfl]at st
   refine AO ?_
   rw [←hx]at st
   exact ⟨A2,n2,c2,st.sel 3 [0,2]⟩
def HD (h:AA) (q:FV):Prop:=∃A m c,q.2.2= .slice A m c∧q.2.1.length=m∧Rd h A (q.2.1.map AN)
def nd (q:FV):List UInt8×List UInt8:=(q.1,q.2.1)
theorem Hn {n n2 c c2:Nat} {A A2:Option Addr} {L L2:List FV} {h0:AA} (hr:Rd h0 A (DT L)) (hr2:Rd h0 A2 (DT L2)) (hl:L.length=n) (hl2:L2.length=n2) (hn:n≤1000000) (hd:∀q∈L,HD h0 q) (hd2:∀q∈L2,HD h0 q):
  AG Tryz.prog 9 [.slice A n c,.slice A2 n2 c2] h0 fun v h'=>(∃b,v= .bool b∧(L.map nd=L2.map nd→b=true))∧h0=h':=by
 refine Ac Tryz.func9 rfl fun _=>B3 ?_
 refine AK rfl (fun h=> ?_) (fun h=> ?_)
 ·have hne:(n:Int)≠n2:=h
  refine AH ?_
  refine ⟨⟨false,rfl,fun e=> ?_⟩,rfl⟩
  have:=congrArg List.length e
  rw [z3,z3]at this
  omega
 ·have hnn:n=n2:=by
   have h':¬ ((n:Int)≠n2):=h
   omega
  refine AO ?_
  refine BD (fun s=>n-s) (fun s=>[(0,.slice A n c),(1,.slice A2 n2 c2),(5,nV s)])
   (fun (s:Nat) hp=>s≤n∧h0=hp) 0 (DJ rfl rfl rfl) ⟨Nat.zero_le _,rfl⟩ ?_
  rintro s hp ⟨hs,rfl⟩
  refine AP ?_
  refine AK rfl (fun h=> ?_) (fun h=> ?_)
  ·obtain ⟨y,hy⟩:∃y,L[s]'(by omega)=y:=⟨_,rfl⟩
   obtain ⟨z,hz⟩:∃z,L2[s]'(by omega)=z:=⟨_,rfl⟩
   obtain ⟨b1,o1,rfl,hc1⟩:=Rd.flat fC 2 hr (fun _=>rfl) (by omega) (by omega)
   obtain ⟨b2,o2,rfl,hc2⟩:=Rd.flat fC 2 hr2 (fun _=>rfl) (by omega) (by omega)
   replace hc1:=hc1 s (by omega)
   replace hc2:=hc2 s (by omega)
   rw [hy]at hc1
   rw [hz]at hc2
   obtain ⟨A3,n3,c3,e3,hl3,hr3⟩:=hd y (hy▸List.getElem_mem _)
   obtain ⟨A4,n4,c4,e4,hl4,hr4⟩:=hd2 z (hz▸List.getElem_mem _)
   obtain ⟨yn,yd,yv⟩:=y
   obtain ⟨zn,zd,zv⟩:=z
   simp only at e3 e4 hl3 hl4 hr3 hr4
   subst e3 e4
   have hnd:L.map nd=L2.map nd→yn=zn∧yd=zd:=fun e=>by
    have h1:(L.map nd)[s]? =some (yn,yd):=by rw [zr,z9 (by omega),hy];rfl
    have h2:(L2.map nd)[s]? =some (zn,zd):=by rw [zr,z9 (by omega),hz];rfl
    rw [e,h2]at h1
    simp only [Option.some.injEq,Prod.mk.injEq]at h1
    exact ⟨h1.1.symm,h1.2.symm⟩
   refine AO ?_
   refine xa (Bp (i:=s) rfl rfl rfl (by omega)) (AC ?_)
   refine xl (hc1 0 _ rfl) rfl (AB ?_)
   refine xa (Bp (i:=s) rfl rfl rfl (by omega)) (AC ?_)
   refine xl (hc2 0 _ rfl) rfl ?_
   refine xa (F9 (a:=yn) (b:=zn) rfl rfl) (AC ?_)
   refine Am 28 rfl (fun h=> ?_) (fun h=> ?_)
   ·have hn1:yn≠zn:=by simpa using h
    refine HQ ?_
    exact ⟨⟨false,rfl,fun e=>absurd (hnd e).1 hn1⟩,rfl⟩
   ·refine AB ?_
    refine xa (Bp (i:=s) rfl rfl rfl (by omega)) (AC ?_)
    refine xl (hc1 1 _ rfl) rfl ?_
    refine xa (Gu hr3 rfl hl3 rfl rfl rfl) (AB ?_)
    refine xa (Bp (i:=s) rfl rfl rfl (by omega)) (AC ?_)
    refine xl (hc2 1 _ rfl) rfl ?_
    refine xa (Gu hr4 rfl hl4 rfl rfl rfl) ?_
    refine xa (F9 (a:=yd) (b:=zd) rfl rfl) (AB ?_)
    refine AK rfl (fun h=> ?_) (fun h=> ?_)
    ·have hn2:yd≠zd:=by simpa using h
     refine AH ?_
     exact ⟨⟨false,rfl,fun e=>absurd (hnd e).2 hn2⟩,rfl⟩
    ·refine AO ?_
     exact Ad (s+1) (DJ rfl rfl rfl) ⟨by omega,rfl⟩ (by omega)
  ·refine AL ?_
   exact ⟨⟨true,rfl,fun _=>rfl⟩,rfl⟩
end Go.Bn
end

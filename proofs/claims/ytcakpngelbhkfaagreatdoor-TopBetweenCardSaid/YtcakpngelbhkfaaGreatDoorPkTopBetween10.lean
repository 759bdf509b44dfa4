/- Packed texts of a claim: what its theorem uses, joined. -/
import Derived.Test.YtcakpngelbhkfaaGreatDoorProg
import Derived.Lib.Bytealg
import Derived.Test.YtcakpngelbhkfaaGreatDoorPkTopBetween9
set_option maxRecDepth 100000
set_option maxHeartbeats 4000000
set_option linter.unusedVariables false
set_option linter.unusedSimpArgs false
set_option linter.unusedSectionVars false
set_option linter.defProp false
section
namespace Go.Bn
open Go Proofs
theorem aX (ls:List Nat) (x:Nat):CI ls (x:Int)=ls.getD x 0:=by unfold CI;rw [if_neg (by omega),Int.toNat_natCast]
def Gv (li:List Int):Nat:=if li.length<1∨320<li.length then 5 else if ∀x∈li,0≤x∧x≤15 then 0 else 1
noncomputable def Iq (li:List Int):List Bool:=if Gv li=0 then Be (li.map Int.toNat)else []
theorem eA {B p n c:Nat} {A:Option Addr} {li:List Int} {bs:List Bool} {F:List AE} {h0:AA} (st0:St B h0 h0 (EN p bs::F)) (hrB:∀h' rs,St B h0 h' (rs++F)→Rd h' A (li.map iV)) (hl:li.length=n) (hn:n≤17592186044416) (hbs:bs.length≤1048576):
  AG Tryz.prog 237 [.pointer (some ⟨p,0,none⟩),.slice A n c] h0 fun v h'=>v=nV (Gv li)∧St B h0 h' (EN p (bs++Iq li)::F):=by
 refine Ac Tryz.func237 rfl fun _=>AB ?_
 refine xv (Bv (cs:=[.pointer (some ⟨p,0,none⟩)]) rfl rfl) ?_
 rintro _ hp ⟨p2,rfl,hnew⟩
 have st:=st0.new hnew
 refine BP ?_
 refine Am 21 rfl (fun h=> ?_) (fun h=> ?_)
 ·have h21:=h
  refine By ?_
  have he:Gv li=5:=by unfold Gv;rw [if_pos (by omega)]
  unfold Iq
  rw [he,if_neg (by omega),List.append_nil]
  exact ⟨rfl,st.tail⟩
 ·have h21:=h
  refine AL ?_
  refine AK rfl (fun h=> ?_) (fun h=> ?_)
  ·refine AH ?_
   have he:Gv li=5:=by unfold Gv;rw [if_pos (by omega)]
   unfold Iq
   rw [he,if_neg (by omega),List.append_nil]
   exact ⟨rfl,st.tail⟩
  ·refine AB ?_
   refine xc st 0 0 ?_
   refine AF ?_
   refine xk (eB (hrB _ [_,_] st) hl hn) rfl ?_
   rintro _ _ ⟨rfl,rfl⟩
   refine AJ ?_
   refine AK rfl (fun h=> ?_) (fun h=> ?_)
   ·refine AH ?_
    have he:Gv li=1:=by unfold Gv;rw [if_neg (by omega),if_neg h]
    unfold Iq
    rw [he,if_neg (by omega),List.append_nil]
    exact ⟨rfl,st.tail⟩
   ·have hb:=Decidable.not_not.1 h
    have he:Gv li=0:=by unfold Gv;rw [if_neg (by omega),if_pos hb]
    have hpl:Iq li=Be (li.map Int.toNat):=by unfold Iq;rw [if_pos he]
    have hb2:∀x∈li.map Int.toNat,x≤15:=fun x hx=>by obtain ⟨y,hy,rfl⟩:=List.mem_map.1 hx;have:=hb y hy;omega
    have hrN:∀h' rs,St B h0 h' (rs++F)→Rd h' A ((li.map Int.toNat).map nV):=fun h' rs hs=>by rw [Hl,Qx fun x hx=>(hb x hx).1];exact hrB h' rs hs
    have hlN:(li.map Int.toNat).length=n:=by rw [z3];exact hl
    rw [he,hpl]
    obtain ⟨ls,hls⟩:∃ls,li.map Int.toNat=ls:=⟨_,rfl⟩
    rw [hls]at hb2 hrN hlN
    rw [hls]
    have hpm:=QE hb2
    have hplen:=VE ls
    have hok:=QJ hb2 (by omega)
    have h19:=Kb ls
    refine AJ ?_
    refine xv (GA (n:=19) (by omega) rfl rfl rfl) ?_
    rintro v hp hnew
    replace st:=st.new hnew
    obtain ⟨go,no,co,rfl,hno,_⟩:=st.row0 0 rfl (by rw [zg];omega)
    obtain rfl:no=19:=by simpa using hno.symm
    rw [show List.replicate 19 (Value.int .i64 0)=(EM []).map nV by rw [cz,List.map_replicate];rfl]at st
    refine xv (CK rfl) ?_
    rintro _ hp ⟨p5,rfl,hnew⟩
    replace st:=st.new hnew
    refine xj st 0 fun hp st=> ?_
    simp only [z0,z1]at st
    refine AH ?_
    refine xk (Vf) rfl ?_
    rintro _ hp3 ⟨pp,rfl,st3⟩
    replace st:=st.join st3
    simp only [z5,z4]at st
    refine AB ?_
    refine GL st rfl rfl (by kernel_rfl) fun fn tmps L1 y1 d1 hp1 hL1 hok1 hx1 st1=> ?_
    obtain ⟨JR,hJR⟩:∃JR:List (Nat×Nat)→List AE,JR=fun s=>[BG y1 (L1 .ready none),pt p5 61 [.slice (some ⟨go,0,none⟩) 19 co],Bn.row 3 1 (.slice (some ⟨go,0,none⟩) 19 co) ((EM s).map nV)]:=⟨_,rfl⟩
    have st2:=St.reF [_,_,_,_,_] 5 st1 [2,0,3,4,1] (by decide)
    simp only [zj,List.map_nil,An,z5,z4]at st2
    have st11:St B h0 hp1 (pt pp 61 [.slice A n c]::(JR []++(BG d1 (.deferred (some []))::pt p2 237 [.pointer (some ⟨p,0,none⟩)]::EN p bs::F))):=by rw [hJR];exact st2
    refine AG.mono (VF JR st11.here (fun h' rs hs=>hrN h' (rs++[_,_,_]) (by rw [z8];exact st11.trans hs)) hlN (by omega) ?_) ?_
    ·intro s x r F' h hlow hsP st2
     subst hL1
     subst hJR
     simp only [z5,z4]at st2
     have hx19:=(hpm x (by rw [←hsP];simp)).1
     have hsl:s.length < (Cg ls 0).length:=by rw [←hsP];simp
     have hcl:=VG s
     have hog:=QG (s:=s) hx19
     have hcx:(s.map (·.1)).count x.1≤s.length:=hcl _ (List.mem_of_getElem? hog)
     refine GZ (st2.obj_at 0 rfl) hok1 rfl rfl fun w0 hw0=> ?_
     simp only [E2]
     refine AC ?_
     refine xv (CK rfl) ?_
     rintro _ hp ⟨p6,rfl,hnew⟩
     have st:=st2.new hnew
     refine xw (us:=IL x) st 0 (Pt x) fun hp st=> ?_
     simp only [z0]at st
     refine AC ?_
     refine GJ (st.obj_at 1 rfl) ?_
     replace st:=st.loop 1 .busy none rfl
     simp only [z0,z1]at st
     obtain ⟨_,_,he8,hc8⟩:=(st.rdS 3 rfl).2.at_ (by rw [z3,HM];omega)
     cases he8
     have hov:=hc8 _ _ (F4 hog)
     refine AB ?_
     refine xc st 2 0 ?_
     refine AC ?_
     refine xc st 0 0 ?_
     refine AC ?_
     refine xl (hov) rfl (AB ?_)
     refine BT (EL (v:=nV ((s.map (·.1)).count x.1+1)) st 3 rfl rfl rfl (by rw [z3,HM];exact hx19) rfl rfl) rfl rfl fun _ hp st=> ?_
     simp only [z0,z1]at st
     rw [HK,dA]at st
     refine AB ?_
     refine FL (st.obj_at 1 rfl) ⟨rfl,?_⟩
     replace st:=st.loop 1 .ready none rfl
     simp only [z0,z1]at st
     exact st.tail
    rintro _ h' st3
    subst hJR
    simp only [z5,z4]at st3
    refine .inl ⟨_,st11.trans st3,fun hp3 st4=> ?_⟩
    have st:=st4
    have hrdP:=(st.rdS 2 rfl).2
    rw [Hl]at hrdP
    have hbW:Gl 1073741824 ((EM (Cg ls 0)).map fun n:Nat=>(n:Int)):=by
     refine ⟨by rw [z3,HM];omega,fun x hx=> ?_⟩
     obtain ⟨y,hy,rfl⟩:=List.mem_map.1 hx
     have:=VG _ y hy;omega
    have hlI:IC ((EM (Cg ls 0)).map fun n:Nat=>(n:Int))=C1 ls:=by
     unfold IC
     rw [if_pos (Si.2 hbW),JE];rfl
    have hRC:D5 ((C1 ls).map fun n:Nat=>(n:Int)):=by
     refine ⟨by rw [z3,h19];omega,⟨by rw [z3,h19];omega,fun x hx=> ?_⟩,by rw [JE];exact hok.2.2.2⟩
     obtain ⟨y,hy,rfl⟩:=List.mem_map.1 hx
     have:=hok.2.2.1 y hy;omega
    refine AF ?_
    refine xc st 1 0 ?_
    refine xk (To hrdP (by rw [z3,HM]) (by omega)) rfl ?_
    rintro _ hp5 ⟨v7,rfl,st5⟩
    rw [hlI]at st5
    obtain ⟨A7,n7,c7,rfl,hl7,_,_,hrd7⟩:=st5.row 0 rfl
    rw [z3,h19,zf]at hl7
    obtain rfl:n7=19:=by omega
    replace st:=st.join st5
    simp only [z5,z4]at st
    have hrd7I:=hrd7
    rw [Hl]at hrd7I
    refine Aj ?_
    refine xk (KC hrd7I (by rw [z3,h19]) (by omega)) rfl ?_
    rintro _ hp6 ⟨w,rfl,hx6,hy6,_⟩
    obtain ⟨pc,rfl,sc⟩:=hy6 hRC
    rw [JE]at sc
    replace st:=st.join sc
    simp only [z5,z4]at st
    refine AF ?_
    refine xv (CK rfl) ?_
    rintro _ hp ⟨p9,rfl,hnew⟩
    replace st:=st.new hnew
    refine xj st 0 fun hp st=> ?_
    simp only [z0,z1]at st
    refine AF ?_
    replace st:=St.reF [_,_,_,_,_,_,_,_,_] 9 st [3,4,5,8,1,7,0,2,6] (by decide)
    simp only [zj,List.map_nil,An,z5,z4]at st
    replace st:=st.tail.tail.tail
    refine AC ?_
    refine xc st 2 0 ?_
    refine AB ?_
    refine xa (Bj (k':= .u32) rfl rfl (by simp only [AI];omega)) ?_
    refine xk (ME (n:=n) (k:=9) st.here (by omega) (by omega)) rfl ?_
    rintro _ hp7 ⟨rfl,st7⟩
    rw [show wd 32 9=9 from rfl]at st7
    replace st:=st.trans st7
    refine Aj ?_
    have hh0:bs++BM 9 n=bs++EW ls 0:=by unfold EW;rw [hlN];simp
    rw [hh0]at st
    refine BD (fun i=>19-i) (fun i=>[(1,.slice A n c),(2,.pointer (some ⟨p2,0,none⟩)),(9,.pointer (some ⟨p9,0,none⟩)),(60,.slice A7 19 c7),(61,nV 19),(62,nV i)])
     (fun (i:Nat) hp=>i≤19∧St B h0 hp (EN p (bs++EW ls i)::CO pc (C1 ls)::pt p2 237 [.pointer (some ⟨p,0,none⟩)]::pt p9 280 [.pointer (some ⟨pc,0,none⟩)]::Bn.row 3 1 (.slice A7 19 c7) ((C1 ls).map nV)::BG d1 (.deferred (some []))::F))
     0 (CL rfl rfl rfl rfl rfl rfl) ⟨Nat.zero_le _,st⟩ ?_
    clear st st7
    rintro i hp8 ⟨hi,st⟩
    refine AH ?_
    refine AK rfl (fun h=> ?_) (fun h=> ?_)
    ·obtain ⟨g7,o7,rfl,hc7⟩:=(st.rdS 4 rfl).2.at_ (by rw [z3];omega)
     have hli:=hc7 i (nV ((C1 ls).getD i 0)) (by rw [zr,z9 (by omega),ER (by omega)];rfl)
     have hl15:(C1 ls).getD i 0≤15:=by rw [ER (by omega)];exact hok.2.2.1 _ (List.getElem_mem _)
     have hhl:=QM ls i
     refine AL ?_
     refine xl (hli) rfl (AF ?_)
     refine xc st 2 0 ?_
     refine AC ?_
     refine xa (Bj (k':= .u32) rfl rfl (by simp only [AI];omega)) ?_
     refine xk (ME (n:=(C1 ls).getD i 0) (k:=4) st.here (by omega) (by rw [z2];omega)) rfl ?_
     rintro _ hp9 ⟨rfl,st9⟩
     rw [show wd 32 4=4 from rfl,z8,←Nx (by omega)]at st9
     replace st:=st.trans st9
     refine AL ?_
     exact Ad (i+1) (CL rfl rfl rfl rfl rfl rfl) ⟨by omega,st⟩ (by omega)
    ·refine AF ?_
     obtain rfl:i=19:=by omega
     have hhl:=QM ls 19
     refine AB ?_
     refine xk (Vf) rfl ?_
     rintro _ hp10 ⟨pp2,rfl,st10⟩
     replace st:=st.join st10
     simp only [z5,z4]at st
     refine AB ?_
     refine GL st rfl rfl (by kernel_rfl) fun fn2 tmps2 L2 y2 d2 hp2 hL2 hok2 hx2 st1=> ?_
     obtain ⟨JR,hJR⟩:∃JR:List (Nat×Nat)→List AE,JR=fun s=>[BG y2 (L2 .ready none),EN p (bs++EW ls 19++s.flatMap (Er (C1 ls))),CO pc (C1 ls),pt p2 237 [.pointer (some ⟨p,0,none⟩)],pt p9 280 [.pointer (some ⟨pc,0,none⟩)]]:=⟨_,rfl⟩
     have st2:=St.reF [_,_,_,_,_,_,_,_,_] 9 st1 [2,0,3,4,5,6,1,7,8] (by decide)
     simp only [zj,List.map_nil,An,z5,z4]at st2
     have st12:St B h0 hp2 (pt pp2 61 [.slice A n c]::(JR []++(BG d2 (.deferred (some []))::Bn.row 3 1 (.slice A7 19 c7) ((C1 ls).map nV)::BG d1 (.deferred (some []))::F))):=by rw [hJR];simpa using st2
     refine AG.mono (VF JR st12.here (fun h' rs hs=>hrN h' (rs++[_,_,_]) (by rw [z8];exact st12.trans hs)) hlN (by omega) ?_) ?_
     ·intro s x r F' h hlow hsP st2
      subst hL2
      subst hJR
      simp only [z5,z4]at st2
      obtain ⟨hx19,hxL,hxH⟩:=hpm x (by rw [←hsP];simp)
      have hxh:=QO x.1
      have hsl:s.length < (Cg ls 0).length:=by rw [←hsP];simp
      have hfb:=KH (Er (C1 ls)) 22 (QA hok) s
      have hpb:=QA hok x
      refine GZ (st2.obj_at 0 rfl) hok2 rfl rfl fun w0 hw0=> ?_
      simp only [E2]
      refine AC ?_
      refine xv (CK rfl) ?_
      rintro _ hp ⟨p13,rfl,hnew⟩
      have st:=st2.new hnew
      refine xw (us:=IL x) st 0 (Pt x) fun hp st=> ?_
      simp only [z0]at st
      refine AC ?_
      refine GJ (st.obj_at 1 rfl) ?_
      replace st:=st.loop 1 .busy none rfl
      simp only [z0,z1]at st
      replace st:=St.reF [_,_,_,_,_,_] 6 st [2,3,0,1,4,5] (by decide)
      simp only [zj,List.map_nil,An,z5,z4]at st
      refine AJ ?_
      refine xc st 2 0 ?_
      refine xk (Oh x.1 _) rfl ?_
      rintro _ _ ⟨rfl,rfl⟩
      refine BP ?_
      refine xc st 5 0 ?_
      refine xc st 4 0 ?_
      refine AC ?_
      refine xc st 2 0 ?_
      refine xk (Ov (s:=(x.1:Nat)) st.here hok (by simp only [z2];omega)) rfl ?_
      rintro _ hp14 ⟨rfl,st14⟩
      rw [aX,Int.toNat_natCast]at st14
      replace st:=st.trans st14
      refine AB ?_
      refine xc st 4 0 ?_
      refine AC ?_
      refine xc st 2 1 ?_
      refine AC ?_
      refine xa (Bk (m:=x.2) (n:=rL x.1) rfl rfl hxL (by simp only [AI];omega)) ?_
      refine xa (Bj (k':= .u32) rfl rfl (by simp only [AI];omega)) (AC ?_)
      refine xk (ME (n:=x.2-rL x.1) (k:=((rW x.1:Nat):Int)) st.here (by omega) (by simp only [z2,Dp];have h15:(C1 ls).getD x.1 0≤15:=by {rw [ER (by omega)];exact hok.2.2.1 _ (List.getElem_mem _)};omega)) rfl ?_
      rintro _ hp15 ⟨rfl,st15⟩
      rw [Kn (by have:=QQ x.1;omega)]at st15
      replace st:=st.trans st15
      refine AB ?_
      refine FL (st.obj_at 3 rfl) ⟨rfl,?_⟩
      replace st:=st.loop 3 .ready none rfl
      simp only [z0,z1]at st
      have e:bs++EW ls 19++s.flatMap (Er (C1 ls))++Bh (val (C1 ls) x.1) ((C1 ls).getD x.1 0)++BM (rW x.1) (x.2-rL x.1)=bs++EW ls 19++(s++[x]).flatMap (Er (C1 ls)):=by
       rw [List.flatMap_append]
       simp [Er]
      rw [e]at st
      replace st:=St.reF [_,_,_,_,_,_] 6 st [2,3,0,1,4,5] (by decide)
      simp only [zj,List.map_nil,An,z5,z4]at st
      exact st.tail
     rintro _ h' st3
     subst hJR
     simp only [z5,z4]at st3
     refine .inl ⟨_,st12.trans st3,fun hp3 st4=> ?_⟩
     have st:=st4
     refine AH ?_
     refine XX (d:=d2) (e:=d1) (.cons (.tmp rfl) .nil) ?_ (st.obj_at 5 rfl) ((st.put 5 (.deferred none) rfl).obj_at 7 rfl)
     replace st:=(st.put 5 (.deferred none) rfl).put 7 (.deferred none) rfl
     simp only [z0,z1]at st
     replace st:=St.reF [_,_,_,_,_,_,_,_] 8 st [0,2,3,4,5,6,7,1] (by decide)
     simp only [zj,List.map_nil,An,z5,z4]at st
     refine ⟨rfl,?_⟩
     unfold Be
     rw [←z8]
     exact st.tail.tail.tail.tail.tail.tail.tail
end Go.Bn
end

section
namespace Go.Bn
open Go Proofs
theorem Ok (z:List Nat):z.map nV=(Cr z).map iV:=by unfold Cr;rw [List.map_map];rfl
theorem KB (z:List Nat):(Cr z).length=z.length:=by unfold Cr;rw [z3]
theorem St.rdM {B:Nat} {h0 hp:AA} {rs:List AE} (s:St B h0 hp rs) {e sz n c:Nat} {A:Option Addr} {vs:List Value} (h:Bn.row e sz (.slice A n c) vs∈rs):Rd hp A vs:=by
 obtain ⟨j,hj,he⟩:=List.getElem_of_mem h
 exact (s.rdS j (by rw [z9 hj,he])).2
theorem ai {ws:List Nat} (h2:ws.length≤320) (hw:∀x∈ws,x≤1073741824):IC (Cr ws)=DY ws:=by
 have hb:Gl 1073741824 (Cr ws):=by
  refine ⟨by rw [KB];exact h2,fun x hx=> ?_⟩
  obtain ⟨y,hy,rfl⟩:=List.mem_map.1 hx
  have:=hw y hy
  omega
 have he:HZ (Cr ws)=0:=by
  unfold HZ
  rw [KB,if_neg (by omega),if_pos hb]
 unfold IC
 rw [if_pos he,JC]
theorem dc {ls:List Nat} (h:Bi ls):Iq (Cr ls)=Be ls:=by
 have hb:∀x∈Cr ls,0≤x∧x≤15:=by
  intro x hx
  obtain ⟨y,hy,rfl⟩:=List.mem_map.1 hx
  have:=h.2.2.1 y hy
  omega
 have he:Gv (Cr ls)=0:=by
  unfold Gv
  rw [KB,if_neg (by have:=h.1;have:=h.2.1;omega),if_pos hb]
 unfold Iq
 rw [if_pos he,JC]
theorem Rz {B p n c:Nat} {A:Option Addr} {ws:List Nat} {bs:List Bool} {F:List AE} {h0:AA} (st0:St B h0 h0 (EN p bs::F)) (hrB:∀h' rs,St B h0 h' (rs++F)→Rd h' A (ws.map nV)) (hl:ws.length=n) (h1:1≤n) (h2:n≤320) (hw:∀x∈ws,x≤1073741824) (hs:(BI ws).length≠0) (hbs:bs.length≤1048576):
  AG Tryz.prog 203 [.pointer (some ⟨p,0,none⟩),.slice A n c] h0 fun v h'=>∃q,v= .pointer (some ⟨q,0,none⟩)∧St B h0 h' (EN p (bs++Be (DY ws))::CO q (DY ws)::F):=by
 have hok:=PY (ws:=ws) (by omega) (by omega) hs
 refine Ac Tryz.func203 rfl fun _=> ?_
 have st:=st0
 refine AO ?_
 refine xk (To (li:=Cr ws) (by rw [←Ok];exact hrB _ [_] st) (by rw [KB];exact hl) (by omega)) rfl ?_
 rintro _ hp1 ⟨v1,rfl,st1⟩
 rw [ai (by omega) hw]at st1
 replace st:=st.join st1
 clear st1
 obtain ⟨A1,n1,c1,rfl,hl1,_,_,hrd1⟩:=st.row 0 rfl
 rw [z3,Hg,zf]at hl1
 refine Aj ?_
 refine xk (KC (li:=Cr (DY ws)) (by rw [←Ok];exact hrd1) (by rw [KB,Hg];exact hl1) (by omega)) rfl ?_
 rintro _ hp2 ⟨w,rfl,hx2,hyes,_⟩
 obtain ⟨q,rfl,stq⟩:=hyes (MH hok)
 rw [JC]at stq
 replace st:=st.join stq
 clear stq hyes
 replace st:=St.reF [_,_,_] 3 st [2,0,1] (by decide)
 simp only [zj,List.map_nil,An,z5,z4]at st
 refine BP ?_
 refine xk (eA (li:=Cr (DY ws)) st.here (fun h' rs hs=>by rw [←Ok];exact hs.rdM (List.mem_append_right _ (zq _ zp))) (by rw [KB,Hg];exact hl1) (by omega) hbs) rfl ?_
 rintro _ hp3 ⟨rfl,st3⟩
 replace st:=st.trans st3
 rw [dc hok]at st
 refine AO ?_
 exact ⟨q,rfl,(St.reF [_,_,_] 3 st [2,0,1] (by decide)).tail⟩
theorem Rx {B p q:Nat} {ls:List Nat} {k:BQ} {bs:List Bool} {F:List AE} {h0:AA} (st0:St B h0 h0 (EN p bs::CO q ls::F)) (hok:Bi ls) (hk:0≤k.ext∧k.ext<4294967296) (hbs:bs.length≤1099511626000):
  AG Tryz.prog 204 [.pointer (some ⟨p,0,none⟩),.pointer (some ⟨q,0,none⟩),.agg (Bc k).toArray] h0 fun _ h'=>St B h0 h' (EN p (bs++Dn ls k)::CO q ls::F):=by
 obtain ⟨x,hx⟩:∃x:Nat,k.ext=x:=⟨k.ext.toNat,by omega⟩
 have hl15:=NL hok k.num
 refine Bg Tryz.func204 rfl fun _=> ?_
 have st:=st0
 refine AB ?_
 refine xb (us:=Bc k) st fun p5 hp st=>AL ?_
 refine xc st 0 0 ?_
 replace st:=St.reF [_,_,_] 3 st [1,2,0] (by decide)
 simp only [zj,List.map_nil,An,z5,z4]at st
 refine xk (Ov st.here hok (by omega)) rfl ?_
 rintro _ hp2 ⟨rfl,st2⟩
 replace st:=st.trans st2
 clear st2
 refine AJ ?_
 refine xc st 2 2 ?_
 refine AT (.int .u32 ((x:Nat):Int)) (congrArg (Value.int .u32) hx) (AC ?_)
 refine xc st 2 1 ?_
 refine xk (ME (n:=x) st.here (by omega) (by rw [z2,Dp];omega)) rfl ?_
 rintro _ hp3 ⟨rfl,st2⟩
 replace st:=st.trans st2
 clear st2
 have he:bs++Bh (val ls k.num.toNat) (CI ls k.num)++BM (wd 32 k.bits) x=bs++Dn ls k:=by unfold Dn;rw [hx,Int.toNat_natCast,z8]
 rw [he]at st
 refine AB ?_
 exact (St.reF [_,_,_] 3 st [2,0,1] (by decide)).tail
theorem WL {t:AW} (h:t.right) (hb:0≤t.byte∧t.byte<256):(0≤(BH t).a.ext∧(BH t).a.ext<4294967296)∧(0≤(BH t).b.ext∧(BH t).b.ext<4294967296)∧0≤(BH t).a.num∧(BH t).a.num<273∧0≤(BH t).b.num∧(BH t).b.num<30:=by
 obtain ⟨_,h1,h2,_,h3,h4⟩:=ND h hb
 refine ⟨?_,?_,h1,h2,h3,h4⟩
 ·unfold BH
  split
  ·simp
  ·rename_i h0
   unfold AW.right at h
   rw [if_neg h0]at h
   simp only [CG]
   omega
 ·unfold BH
  split
  ·simp [BQ.nil]
  ·rename_i h0
   unfold AW.right at h
   rw [if_neg h0]at h
   simp only [CG]
   omega
theorem YV {B p n c:Nat} {A:Option Addr} {ts:List AW} {bs:List Bool} {F:List AE} {h0:AA} (st0:St B h0 h0 (EN p bs::F)) (hrB:∀h' rs,St B h0 h' (rs++F)→Rd h' A (ts.flatMap Ah)) (hl:ts.length=n) (hn:n≤17592186044416) (hby:∀t∈ts,0≤t.byte∧t.byte<256) (hbs:bs.length≤1000000):
  AG Tryz.prog 153 [.pointer (some ⟨p,0,none⟩),.slice A n c] h0 fun v h'=>v=nV (if Fo ts then 0 else 3)∧St B h0 h' (EN p (bs++if Fo ts then EA (ts.map BH)else [])::F):=by
 refine Ac Tryz.func153 rfl fun _=> ?_
 have st:=st0
 refine Cp ?_
 refine xk (YW (St.start h0) (fun h' hh=>(hrB h0 [_] st).ext hh) hl hn hby) rfl ?_
 rintro _ hp1 ⟨w,rfl,hyes,hno⟩
 refine AC ?_
 by_cases hR:Fo ts
 ·replace st:=st.join (hyes hR)
  rw [decide_eq_true hR,if_pos hR,if_pos hR]
  clear hyes hno
  have hY:∀y∈ts.map BH,(0≤y.a.ext∧y.a.ext<4294967296)∧(0≤y.b.ext∧y.b.ext<4294967296)∧0≤y.a.num∧y.a.num<273∧0≤y.b.num∧y.b.num<30:=fun y hy=>by
   obtain ⟨t,ht,rfl⟩:=List.mem_map.1 hy
   exact WL (hR.2 t ht) (hby t ht)
  obtain ⟨ys,hys⟩:∃ys,ts.map BH=ys:=⟨_,rfl⟩
  have hyl:ys.length=n:=by rw [←hys,z3];exact hl
  have hn6:=hR.1
  rw [hys]at st hY ⊢
  obtain ⟨A1,n1,c1,rfl,hl1,_⟩:=st.row 0 rfl
  rw [EO _ 7 (fun _=>rfl)]at hl1
  obtain rfl:n=n1:=by omega
  have hb30:∀y∈ys,y.b.num.toNat<30:=fun y hy=>by have:=hY y hy;omega
  have hokA:=NE ys
  have hokB:=NF hb30
  refine BP ?_
  refine AT (.bool false) rfl (AL ?_)
  refine xk (Ya (St.start hp1) (fun h' hh=>(st.rdS 0 rfl).2.ext hh) hyl (by omega) (fun y hy=>(hY y hy).2.2)) rfl ?_
  rintro _ hp2 ⟨w1,w2,rfl,st2⟩
  replace st:=st.join st2
  clear st2
  obtain ⟨Aa,na,ca,rfl,hla,_⟩:=st.row 0 rfl
  obtain ⟨Ab,nb,cb,rfl,hlb,_⟩:=st.row 1 rfl
  rw [z3,Hc,zf]at hla
  rw [z3,Ho,zf]at hlb
  subst hla hlb
  replace st:=St.reF [_,_,_,_] 4 st [3,0,1,2] (by decide)
  simp only [zj,List.map_nil,An,z5,z4]at st
  refine BP ?_
  refine xk (Rz st.here (fun h' rs hs=>hs.rdM (List.mem_append_right _ zp)) (Hc ys) (by omega) (by omega) (fun x hx=>by have:=Zf ys x hx;omega) (Su ys) (by omega)) rfl ?_
  rintro _ hp3 ⟨q1,rfl,st3⟩
  replace st:=st.trans st3
  clear st3
  rw [show DY (Hb ys)=lA ys from rfl]at st
  have hlA:=Ny hokA
  rw [show (lA ys).length=273 by unfold lA;rw [Hg,Hc]]at hlA
  refine AB ?_
  refine xk (Rz st.here (fun h' rs hs=>hs.rdM (List.mem_append_right _ (zq _ (zq _ zp)))) (Ho ys) (by omega) (by omega) (fun x hx=>by have:=eX ys x hx;omega) (V4 hb30) (by rw [z2];omega)) rfl ?_
  rintro _ hp4 ⟨q2,rfl,st3⟩
  replace st:=st.trans st3
  clear st3
  rw [show DY (FU ys)=lB ys from rfl]at st
  have hlB:=Ny hokB
  rw [show (lB ys).length=30 by unfold lB;rw [Hg,Ho]]at hlB
  replace st:=(St.reF [_,_,_,_,_,_] 6 st [3,4,0,2,1,5] (by decide)).tail.tail
  simp only [zj,List.map_nil,An,z5,z4]at st
  obtain ⟨la,hla⟩:∃x,lA ys=x:=⟨_,rfl⟩
  obtain ⟨lb,hlb⟩:∃x,lB ys=x:=⟨_,rfl⟩
  have hbl:EA ys=Be la++Be lb++ys.flatMap (B1 la lb)++Bh (val la 256) (CI la 256):=by unfold EA;rw [hla,hlb]
  rw [hla]at st hokA hlA
  rw [hlb]at st hokB hlB
  rw [hbl]
  have hfl:=fun i=>KH (B1 la lb) 94 (Wc hokA hokB) (ys.take i)
  refine Bu ?_
  refine BD (fun i=>n-i) (fun i=>[(0,.pointer (some ⟨p,0,none⟩)),(9,.pointer (some ⟨q1,0,none⟩)),(10,.pointer (some ⟨q2,0,none⟩)),(33,.slice A1 n c1),(34,nV n),(35,nV i)])
   (fun (i:Nat) hp=>i≤n∧St B h0 hp (EN p (bs++Be la++Be lb++(ys.take i).flatMap (B1 la lb))::CO q1 la::CO q2 lb::row 285 7 (.slice A1 n c1) (ys.flatMap CR)::F))
   0 (CL rfl rfl rfl rfl rfl rfl) ⟨Nat.zero_le _,by rw [List.take_zero,List.flatMap_nil,List.append_nil];exact st⟩ ?_
  clear st
  rintro i hp ⟨hi,st⟩
  have hfi:=hfl i
  rw [z6]at hfi
  refine AH ?_
  refine AK rfl (fun h=> ?_) (fun h=> ?_)
  ·have hil:i<ys.length:=by omega
   obtain ⟨y,hy⟩:∃y,ys[i]=y:=⟨_,rfl⟩
   have hyo:=hY y (hy▸List.getElem_mem hil)
   obtain ⟨gy,oy,rfl,hcy⟩:=Rd.flat CR 7 (st.rdS 3 rfl).2 (fun _=>rfl) (by omega) (by omega)
   have hcx:=hcy i hil
   rw [hy]at hcx
   have htk:(ys.take (i+1)).flatMap (B1 la lb)=(ys.take i).flatMap (B1 la lb)++B1 la lb y:=by rw [List.take_succ_eq_append_getElem hil,hy,List.flatMap_append];simp
   refine AH ?_
   refine xa (Bp (i:=i) rfl rfl rfl (by omega)) ?_
   refine xa (Ai (vs:=CR y) hcx rfl rfl rfl rfl) ?_
   refine xv (CK rfl) ?_
   rintro _ hp5 ⟨p12,rfl,hnew⟩
   replace st:=st.new hnew
   refine BT (D3 (us:=CR y) st 0 rfl rfl rfl rfl rfl (IS _) rfl) rfl rfl fun _ hp6 st=> ?_
   simp only [z0,z1]at st
   refine AL ?_
   refine xa (Ai (vs:=Bc y.a) (st.part 0 0 [] (Bc y.a) (Bc y.b++[.bool y.m]) rfl rfl) rfl rfl rfl rfl) ?_
   replace st:=St.reF [_,_,_,_,_] 5 st [1,2,0,3,4] (by decide)
   simp only [zj,List.map_nil,An,z5,z4]at st
   refine xk (Rx st.here hokA hyo.1 (by simp only [z2];omega)) rfl ?_
   rintro _ hp7 st2
   replace st:=st.trans st2
   clear st2
   refine AJ ?_
   refine xc st 2 6 ?_
   refine AT (.bool (decide (y.m=true))) (congrArg Value.bool (by cases y.m <;> rfl)) ?_
   refine AC ?_
   refine AK rfl (fun h=> ?_) (fun h=> ?_)
   ·refine AJ ?_
    refine xa (Ai (vs:=Bc y.b) (st.part 2 3 (Bc y.a) (Bc y.b) [.bool y.m] rfl rfl) rfl rfl rfl rfl) ?_
    replace st:=St.reF [_,_,_,_,_] 5 st [0,3,1,2,4] (by decide)
    simp only [zj,List.map_nil,An,z5,z4]at st
    have hsl:=Qs hokA y.a
    refine xk (Rx st.here hokB hyo.2.1 (by simp only [z2];omega)) rfl ?_
    rintro _ hp8 st2
    replace st:=st.trans st2
    clear st2
    refine AL ?_
    have he:bs++Be la++Be lb++(ys.take i).flatMap (B1 la lb)++Dn la y.a++Dn lb y.b=bs++Be la++Be lb++(ys.take (i+1)).flatMap (B1 la lb):=by
     rw [htk];unfold B1;rw [if_pos h];simp only [z8]
    rw [he]at st
    replace st:=(St.reF [_,_,_,_,_] 5 st [3,0,2,1,4] (by decide)).tail
    exact Ad (i+1) (CL rfl rfl rfl rfl rfl rfl) ⟨by omega,st⟩ (by omega)
   ·refine AL ?_
    have he:bs++Be la++Be lb++(ys.take i).flatMap (B1 la lb)++Dn la y.a=bs++Be la++Be lb++(ys.take (i+1)).flatMap (B1 la lb):=by
     rw [htk];unfold B1;rw [if_neg h,List.append_nil];simp only [z8]
    rw [he]at st
    replace st:=(St.reF [_,_,_,_,_] 5 st [2,0,1,3,4] (by decide)).tail
    exact Ad (i+1) (CL rfl rfl rfl rfl rfl rfl) ⟨by omega,st⟩ (by omega)
  ·rw [za (by omega)]at st hfi
   refine AH ?_
   refine xk (Ov (s:=256) st.here hokA (by simp only [z2];omega)) rfl ?_
   rintro _ hp9 ⟨rfl,st2⟩
   replace st:=st.trans st2
   clear st2
   refine AL ?_
   have he:bs++Be la++Be lb++ys.flatMap (B1 la lb)++Bh (val la (256:Int).toNat) (CI la 256)=bs++(Be la++Be lb++ys.flatMap (B1 la lb)++Bh (val la 256) (CI la 256)):=by
    simp only [z8];rfl
   rw [he]at st
   exact ⟨rfl,(St.reF [_,_,_,_] 4 st [1,2,3,0] (by decide)).tail.tail.tail⟩
 ·replace st:=st.ext (hno hR).low
  rw [zu hR,if_neg hR,if_neg hR]
  clear hyes hno
  refine BP ?_
  refine AT (.bool true) rfl (AO ?_)
  rw [List.append_nil]
  exact ⟨rfl,st⟩
end Go.Bn
end

section
namespace Go.Bn
open Go Proofs
section
variable {P:Program} {E:Au} {hp:AA} {cl:Ca} {d:Option Tmp} {ty:TypeId} {pos:String} {af:Array Edge} {g:Option (Nat×Bool)} {x:Operand} {t:TypeId}
end
theorem YR {ys:List Sy} (hb:∀y∈ys,y.b.num.toNat<30):(EA ys).length≤7000+94*ys.length:=by
 have hA:=NE ys
 have hB:=NF hb
 have h1:=Ny hA
 have h2:=Ny hB
 have h3:=KH (B1 (lA ys) (lB ys)) 94 (Wc hA hB) ys
 have h4:=NL hA 256
 rw [PT]at h1
 rw [PU]at h2
 unfold EA
 simp only [z2,Dp]
 omega
theorem fE {ts:List AW} (hR:Fo ts) (hby:∀t∈ts,0≤t.byte∧t.byte<256):∀y∈ts.map BH,y.b.num.toNat<30:=fun y hy=>by
 obtain ⟨t,ht,rfl⟩:=List.mem_map.1 hy
 have:=WL (hR.2 t ht) (hby t ht)
 omega
end Go.Bn
end

section
namespace Go.Bn
open Go Proofs
theorem PA (k:Int) (hp:AA):AG Tryz.prog 166 [.int .i64 k] hp fun v hp'=>v= .int .i64 (B2 k:Nat)∧hp=hp':=by
 refine BE Tryz.func166 rfl fun _=>By ?_
 refine ⟨?_,rfl⟩
 rw [gh];rfl
theorem H8 {B n:Nat} {k:Int} {v:Value} {l:List UInt8} {F:List AE} {h0:AA} (st:St B h0 h0 (row 5 1 v (l.map AN)::F)) (hn:n<4294967296) (hl:l.length≤1099511627776):
  AG Tryz.prog 114 [v,.int .u32 (n:Int),.int .i64 k] h0 fun v' h'=>St B h0 h' (row 5 1 v' ((l++Ay (B2 k) n).map AN)::F):=by
 have hw:=Q8 k
 refine Bg Tryz.func114 rfl fun _=>AP ?_
 refine xk (PA _ _) rfl ?_
 rintro _ _ ⟨rfl,rfl⟩
 refine AF ?_
 refine BD (fun s=>B2 k-s.2.1) (fun s=>[(0,s.1),(1,.int .u32 (s.2.2:Int)),(8,.int .i64 (B2 k:Nat)),(9,.int .i64 (s.2.1:Int))])
  (fun (s:Value×Nat×Nat) hp=>St B h0 hp (row 5 1 s.1 ((l++Ay s.2.1 n).map AN)::F)∧s.2.1≤B2 k∧s.2.2=n/256^s.2.1)
  (v,0,n) (Bt rfl rfl rfl rfl) ⟨by simpa [Ay]using st,by simp,by simp⟩ ?_
 clear st
 rintro ⟨v,i,m⟩ hp ⟨st,hi,hm⟩
 simp only at st hi hm ⊢
 have hmn:m≤n:=by rw [hm];exact Nat.div_le_self _ _
 refine AH ?_
 refine AK rfl (fun h=> ?_) (fun h=> ?_)
 ·refine AO ?_
  refine xa (IH rfl rfl rfl) ?_
  refine AT (AN (UInt8.ofNat m)) (by simp [AN,IntKind.bits]) ?_
  refine xv (Ep rfl rfl rfl) ?_
  rintro _ hp ⟨A,rfl,hx,hrd⟩
  have st:=st.ext hx
  refine BN (BY st 0 rfl (hrd) (rfl) (by simp [Value.one,AN]) (by simp [Cs];omega) rfl rfl rfl rfl rfl rfl rfl) rfl rfl rfl fun v hp st=> ?_
  simp only [z0,z1]at st
  refine AJ ?_
  first | refine AD (EK 8 rfl rfl (by decide)) rfl rfl ?_ | refine AD (Ez 8 rfl rfl (by decide)) rfl rfl ?_
  refine AO ?_
  rw [←List.map_singleton (f:=AN),←List.map_append,z8,hm,←Th]at st
  refine Ad (v,i+1,m/2^8) (Bt rfl rfl rfl rfl) ⟨st,?_,?_⟩ ?_
  ·simp only;omega
  ·simp only;rw [hm,Nat.div_div_eq_div_mul,show (2:Nat)^8=256 by rfl,Nat.pow_succ]
  ·simp only;omega
 ·refine AO ?_
  have:i=B2 k:=by omega
  subst this
  exact st
theorem Zb {at_ k:Int} {A:Option Addr} {n c:Nat} {l:List UInt8} {h0:AA} (hr:Rd h0 A (l.map AN)) (hl:l.length=n) (hn:n≤140737488355328) (ha:AI .i64 at_):
  AG Tryz.prog 231 [.slice A n c,.int .i64 at_,.int .i64 k] h0 fun v h'=>v=Al [.int .u32 (((Ew l at_ k).getD 0:Nat):Int),.bool (Ew l at_ k).isSome]∧h0=h':=by
 have hw:=Q8 k
 have hw1:=gi k
 simp only [AI]at ha
 refine Bg Tryz.func231 rfl fun _=>AP ?_
 refine xk (PA _ _) rfl ?_
 rintro _ _ ⟨rfl,rfl⟩
 refine AP ?_
 refine Am 15 rfl (fun h=> ?_) (fun h=> ?_)
 ·refine Cp ?_
  have:Ew l at_ k=none:=by unfold Ew;rw [if_neg (by omega)]
  rw [this];exact ⟨rfl,rfl⟩
 ·refine AJ ?_
  refine xa (EU rfl rfl (by simp only [AI];omega)) (AF ?_)
  refine AK rfl (fun h=> ?_) (fun h=> ?_)
  ·refine AL ?_
   have:Ew l at_ k=none:=by unfold Ew;rw [if_neg (by omega)]
   rw [this];exact ⟨rfl,rfl⟩
  ·obtain ⟨a,rfl⟩:∃a:Nat,at_=(a:Int):=⟨at_.toNat,by omega⟩
   have hg:Ew l (a:Int) k=some (BZ ((l.drop a).take (B2 k))):=by unfold Ew;rw [if_pos (by omega)];simp
   rw [hg]
   refine Aj ?_
   refine xa (EU rfl rfl (by simp only [AI];omega)) (AF ?_)
   obtain ⟨b,o,rfl,hc⟩:∃b o,A=some ⟨b,o,none⟩∧∀i u,(l.map AN)[i]? =some u→Az h0 ⟨b,o+i,none⟩=some u:=by
    rcases hr with h | h
    ·exfalso
     have:l=[]:=by simpa using h
     subst this;simp at hl;omega
    ·exact h
   refine BD (fun s=>s) (fun s=>[(0,.slice (some ⟨b,o,none⟩) n c),(1,.int .i64 (a:Int)),(9,.int .u32 (BZ ((l.drop (a+s)).take (B2 k-s)):Nat)),(10,.int .i64 ((s:Int)-1))])
    (fun (s:Nat) hp=>h0=hp∧s≤B2 k)
    (B2 k) (.cons rfl (.cons rfl (.cons (by simp [BZ];rfl) (N4 rfl)))) ⟨rfl,Nat.le_refl _⟩ ?_
   rintro i hp ⟨rfl,hi⟩
   refine AL ?_
   refine AK rfl (fun h=> ?_) (fun h=> ?_)
   ·obtain ⟨i,rfl⟩:∃j,i=j+1:=⟨i-1,by omega⟩
    have hlt:a+i<l.length:=by omega
    have hstep:(l.drop (a+i)).take (B2 k-i)=l[a+i]::(l.drop (a+(i+1))).take (B2 k - (i+1)):=by
     rw [List.drop_eq_getElem_cons hlt,show B2 k-i=(B2 k - (i+1))+1 by omega,List.take_succ_cons];rfl
    have hcell:=hc (a+i) (AN l[a+i]) (by simp [hlt])
    have hv:=NJ ((l.drop (a+(i+1))).take (B2 k - (i+1)))
    have hv2:BZ ((l.drop (a+(i+1))).take (B2 k - (i+1)))<16777216:=by
     refine Nat.lt_of_lt_of_le hv (zw (Nat.pow_le_pow_right (by omega) (?_:_≤3)) (by decide))
     rw [z6];omega
    have hb:=(l[a+i]).toNat_lt
    rw [show (((i+1:Nat):Int)-1)=(i:Int) by omega]
    refine AH ?_
    first | refine AD (GT 8 rfl rfl (by decide) (by simp only [AI];omega)) rfl rfl ?_ | refine AD (Lv 8 rfl rfl (by decide) (by simp only [AI];omega)) rfl rfl ?_ | refine AD (Lw 8 rfl rfl (by decide)) rfl rfl ?_
    refine AJ ?_
    refine xa (C0 (i:=a+i) rfl rfl rfl (by omega)) ?_
    refine xl (hcell) rfl ?_
    refine xa (Bj rfl rfl (by simp only [AI];omega)) ?_
    refine xa (Px rfl rfl rfl (by simp only [IntKind.bits];omega) (by simp only [IntKind.bits];omega)) ?_
    rw [show BZ ((l.drop (a+(i+1))).take (B2 k - (i+1)))*2^8||| l[a+i].toNat=BZ ((l.drop (a+i)).take (B2 k-i)) by
     rw [hstep,BZ,Nat.mul_comm,←Nat.two_pow_add_eq_or_of_lt hb];omega]
    refine AH ?_
    refine xa (EU rfl rfl (by simp only [AI];omega)) (AB ?_)
    exact Ad i (Bt rfl rfl rfl rfl) ⟨rfl,by omega⟩ (by omega)
   ·refine AP ?_
    have:i=0:=by omega
    subst this
    exact ⟨rfl,rfl⟩
end Go.Bn
end

section
namespace Go.Bn
open Go Proofs
theorem St.only {B:Nat} {h0 hp:AA} {r:AE}:∀ {rs:List AE},St B h0 hp (r::rs)→St B h0 hp [r]
 | [],s=>s
 | _::_,s=>(s.perm (List.Perm.swap _ _ _)).tail.only
@[reducible] def E8 (p:Nat) (A:Option Addr) (m c at_:Nat) (bad:Bool):AE:=pt p 315 [.slice A m c,.int .i64 (at_:Int),.bool bad]
theorem LI {m c:Nat} {A:Option Addr} {h0:AA}:AG Tryz.prog 194 [.slice A m c] h0 fun v h'=>∃p,v= .pointer (some ⟨p,0,none⟩)∧St h0.size h0 h' [E8 p A m c 0 false]:=by
 refine BE Tryz.func194 rfl fun _=> ?_
 have st:=St.start h0
 refine AO ?_
 refine xa (AZ (ps:=[(0,.slice A m c)]) (cs:= #[.slice A m c,.int .i64 0,.bool false]) rfl rfl) ?_
 refine xv (Bv rfl rfl) ?_
 rintro _ hp ⟨p,rfl,hnew⟩
 have st:=st.new hnew
 refine AF ?_
 exact ⟨_,rfl,st⟩
theorem H6 {p:Nat} {b:Bool} {h0:AA} (c2:Az h0 ⟨p,2,none⟩=some (.bool b)):AG Tryz.prog 197 [.pointer (some ⟨p,0,none⟩)] h0 fun v h'=>v= .bool (!b)∧h0=h':=by
 refine BE Tryz.func197 rfl fun _=>By ?_
 refine xe ?_
 refine xa (Bm rfl) (AJ ?_)
 exact ⟨rfl,rfl⟩
theorem O5 {p m c a:Nat} {A:Option Addr} {h0:AA} (c0:Az h0 ⟨p,0,none⟩=some (.slice A m c)) (c1:Az h0 ⟨p,1,none⟩=some (.int .i64 (a:Int))) (hm:m≤1099511627776) (ha:a≤m):
  AG Tryz.prog 198 [.pointer (some ⟨p,0,none⟩)] h0 fun v h'=>v= .int .i64 (m-a:Nat)∧h0=h':=by
 refine BE Tryz.func198 rfl fun _=>EY ?_
 refine xe ?_
 refine AJ ?_
 refine xe ?_
 refine AJ ?_
 exact ⟨rfl,rfl⟩
theorem Sz {B p m c a:Nat} {k:Int} {A:Option Addr} {l:List UInt8} {F:List AE} {h0:AA} (st:St B h0 h0 (E8 p A m c a false::F)) (hr:Rd h0 A (l.map AN)) (hl:l.length=m) (hm:m≤1099511627776) (ha:a≤m):
  AG Tryz.prog 195 [.pointer (some ⟨p,0,none⟩),.int .i64 k] h0 fun v h'=>
   v= .int .u32 (((Ew l a k).getD 0:Nat):Int)∧St B h0 h' (E8 p A m c (if (Ew l a k).isSome=true then a+B2 k else a) (!(Ew l a k).isSome)::F):=by
 have hw:=Q8 k
 refine Ac Tryz.func195 rfl fun _=>AP ?_
 refine xk (H6 (st.cell 0 rfl rfl)) rfl ?_
 rintro _ _ ⟨rfl,rfl⟩
 refine xa (Bm rfl) (AP ?_)
 refine xe ?_
 refine AF ?_
 refine xe ?_
 refine AC ?_
 refine xk (Zb hr hl (by omega) (by simp only [AI];omega)) rfl ?_
 rintro _ _ ⟨rfl,rfl⟩
 refine AF ?_
 by_cases hg:(Ew l a k).isSome=true
 ·refine AT (.bool true) (congrArg Value.bool hg) (AO ?_)
  refine xa (Bm rfl) (AJ ?_)
  refine El (Ck [(5,.grow)]) (by kernel_rfl) (by kernel_rfl) (AF ?_)
  refine xe ?_
  refine AC ?_
  refine BW (CT (PA _ _) rfl (by kernel_rfl)) rfl rfl rfl (fun _ _ h=>h.2▸BC.refl _ _) ?_
  rintro _ _ ⟨rfl,rfl⟩
  refine AF ?_
  refine xj st 0 fun hp st=> ?_
  simp only [z0,z1]at st
  refine AO ?_
  rw [if_pos hg,hg]
  exact ⟨rfl,st⟩
 ·refine AT (.bool false) (congrArg Value.bool (by simpa using hg)) (AO ?_)
  refine xa (Bm rfl) (AO ?_)
  refine xj st 0 fun hp st=> ?_
  simp only [z0,z1]at st
  refine AL ?_
  rw [Option.not_isSome_iff_eq_none]at hg
  rw [hg]
  exact ⟨rfl,st⟩
theorem ZZ {p:Nat} {k:Value} {h0:AA} (c2:Az h0 ⟨p,2,none⟩=some (.bool true)):AG Tryz.prog 196 [.pointer (some ⟨p,0,none⟩),k] h0 fun v h'=>v= .slice none 0 0∧h0=h':=by
 refine Ac Tryz.func196 rfl fun _=>AP ?_
 refine xk (H6 c2) rfl ?_
 rintro _ _ ⟨rfl,rfl⟩
 refine xa (Bm rfl) (AO ?_)
 exact ⟨rfl,rfl⟩
theorem Mz {p a:Nat} {h0:AA} (c1:Az h0 ⟨p,1,none⟩=some (.int .i64 (a:Int))):
  AG Tryz.prog 212 [.pointer (some ⟨p,0,none⟩)] h0 fun v h'=>v= .int .i64 (a:Nat)∧h0=h':=by
 refine BE Tryz.func212 rfl fun _=>EY ?_
 refine xe ?_
 refine AF ?_
 exact ⟨rfl,rfl⟩
theorem KG {B p m c a n:Nat} {A:Option Addr} {l:List UInt8} {F:List AE} {h0:AA} (st:St B h0 h0 (E8 p A m c a false::F)) (hr:Rd h0 A (l.map AN)) (hl:l.length=m) (hm:m≤1099511627776) (hmc:m≤c) (hn:n+a≤m):
  AG Tryz.prog 196 [.pointer (some ⟨p,0,none⟩),.int .i64 (n:Int)] h0 fun v h'=>St B h0 h' (E8 p A m c (a+n) false::row 5 1 v (((l.drop a).take n).map AN)::F):=by
 refine Ac Tryz.func196 rfl fun _=>AP ?_
 refine xk (H6 (st.cell 0 rfl rfl)) rfl ?_
 rintro _ _ ⟨rfl,rfl⟩
 refine xa (Bm rfl) (AP ?_)
 refine AT (.bool false) (congrArg Value.bool (zu (by omega))) (AH ?_)
 refine xe ?_
 refine AJ ?_
 refine xe ?_
 refine AB ?_
 refine AT (.bool false) (congrArg Value.bool (zu (by omega))) (AO ?_)
 refine xv (GA (by omega) rfl rfl rfl) ?_
 rintro v hp hnew
 have hxx:=hnew.1
 replace st:=st.new hnew
 obtain ⟨A2,n2,c2,rfl,hlen2,_,_,_⟩:=st.row 0 rfl
 have hn2:n2=n:=by simpa using hlen2.symm
 subst hn2
 have hcut:=(hr.ext hxx).cut a 1 c (m-a) (by intro hh;simp;omega)
 rw [zf,←List.map_drop,←List.map_take,za (i:=m-a) (by rw [z7];omega)]at hcut
 refine AP ?_
 refine xe ?_
 refine AF ?_
 refine xe ?_
 refine xa (FD rfl rfl rfl (by omega) (by omega)) ?_
 refine xv (Ue st 0 rfl hcut (by simp [hl]) (by simp) (Dl _) rfl rfl rfl rfl) ?_
 rintro _ hp ⟨rfl,st⟩
 simp only [z0,z1,zf]at st
 rw [Nat.min_eq_right (by omega),show (List.replicate n2 (Value.int IntKind.u8 0)).drop n2=[] by simp,List.append_nil,←List.map_take]at st
 refine AL ?_
 refine xe ?_
 refine AJ ?_
 refine xj st 1 fun hp st=> ?_
 simp only [z0,z1]at st
 refine AO ?_
 exact st.perm (List.Perm.swap _ _ _)
theorem EE {B p m c a n:Nat} (a':Nat) {k:Int} {A:Option Addr} {l:List UInt8} {F:List AE} {h0:AA} (st:St B h0 h0 (E8 p A m c a false::F)) (hr:Rd h0 A (l.map AN)) (hl:l.length=m) (hm:m≤1099511627776) (ha:a≤m) (hg:Ew l a k=some n) (ha':a+B2 k=a'):
  AG Tryz.prog 195 [.pointer (some ⟨p,0,none⟩),.int .i64 k] h0 fun v h'=>v= .int .u32 (n:Int)∧St B h0 h' (E8 p A m c a' false::F):=by
 have h:=Sz (k:=k) st hr hl hm ha
 rw [hg]at h
 simp only [Option.isSome_some,if_true,Option.getD_some,Bool.not_true,ha']at h
 exact h
theorem EF {l:List UInt8} {a:Nat} {k:Int} (h:a+B2 k≤l.length):Ew l (a:Int) k=some (BZ ((l.drop a).take (B2 k))):=by
 unfold Ew
 rw [if_pos (by omega)];simp
end Go.Bn
end

section
namespace Go.Bn
open Go Proofs
theorem Q7:B2 2=2:=rfl
theorem Zh {B p m c a:Nat} {k:Int} {A:Option Addr} {l:List UInt8} {F:List AE} {h0:AA} (st:St B h0 h0 (E8 p A m c a false::F)) (hr:Rd h0 A (l.map AN)) (hl:l.length=m) (hm:m≤1099511627776) (ha:a≤m) (hg:Ew l a k=none):
  AG Tryz.prog 195 [.pointer (some ⟨p,0,none⟩),.int .i64 k] h0 fun v h'=>v= .int .u32 0∧St B h0 h' (E8 p A m c a true::F):=by
 have h:=Sz (k:=k) st hr hl hm ha
 rw [hg]at h
 exact h
theorem Zt {l:List UInt8} {a:Nat} {k:Int} (h:l.length<a+B2 k):Ew l (a:Int) k=none:=by
 unfold Ew
 rw [if_neg (by omega)]
theorem Za {B p m c a n:Nat} {A:Option Addr} {F:List AE} {h0:AA} (st:St B h0 h0 (E8 p A m c a false::F)) (hm:m≤1099511627776) (ha:a≤m) (hn:m<a+n):
  AG Tryz.prog 196 [.pointer (some ⟨p,0,none⟩),.int .i64 (n:Int)] h0 fun v h'=>v= .slice none 0 0∧St B h0 h' (E8 p A m c a true::F):=by
 refine Ac Tryz.func196 rfl fun _=>AP ?_
 refine xk (H6 (st.cell 0 rfl rfl)) rfl ?_
 rintro _ _ ⟨rfl,rfl⟩
 refine xa (Bm rfl) (AP ?_)
 refine AT (.bool false) (congrArg Value.bool (zu (by omega))) (AH ?_)
 refine xe ?_
 refine AJ ?_
 refine xe ?_
 refine AB ?_
 refine AT (.bool true) (congrArg Value.bool (decide_eq_true (by omega))) (AP ?_)
 refine xj st 0 fun hp st=> ?_
 simp only [z0,z1]at st
 refine AL ?_
 exact ⟨rfl,st⟩
theorem dK {m c:Nat} {A:Option Addr} {l:List UInt8} {h0:AA} (hr:Rd h0 A (l.map AN)) (hl:l.length=m) (hm:m≤1099511627776) (hmc:m≤c):
    AG Tryz.prog 147 [.slice A m c] h0 fun v h'=>∃v1,v=Al [v1,.int .i64 (GV l).2]∧St h0.size h0 h' [row 5 1 v1 ((GV l).1.map AN)]:=by
  have hp0:Dt (m-0+1) (l.drop 0) []=GV l:=by rw [←hl];rfl
  refine BE Tryz.func147 rfl fun _=> ?_
  refine Dd ?_
  refine Do ?_
  refine xa (Cm rfl) ?_
  refine xa (Cm rfl) ?_
  refine DS ?_
  refine Dd ?_
  refine Do ?_
  refine xa (DZ rfl) ?_
  refine xk (LI) rfl ?_
  rintro _ hp ⟨pr,rfl,st⟩
  refine xa (Cm rfl) ?_
  refine DS ?_
  refine Dd ?_
  refine Do ?_
  refine xa (Cm rfl) ?_
  refine DS ?_
  refine HU ?_
  replace st:=st.nilrow 5 1
  refine BD (fun s=>m-s.1) (fun s=>[(4,.pointer (some ⟨pr,0,none⟩)),(5,s.2.1)])
    (fun (s:Nat×Value×List UInt8) hp=>St h0.size h0 hp [row 5 1 s.2.1 (s.2.2.map AN),E8 pr A m c s.1 false]∧s.1≤m∧s.2.2.length≤s.1∧Dt (m-s.1+1) (l.drop s.1) s.2.2=GV l)
    (0,_,[]) (Cu rfl rfl) ⟨st,by simp,by simp,hp0⟩ ?_
  clear st hp0
  rintro ⟨a,v,out⟩ hp ⟨st,ha,hout,hpp⟩
  simp only at st ha hout hpp ⊢
  replace st:=st.perm (List.Perm.swap _ _ _)
  refine HU ?_
  refine Dd ?_
  refine Do ?_
  refine xa (DZ rfl) ?_
  by_cases h2:a+2≤m
  · refine xk (EE (a+2) (n:=BZ ((l.drop a).take 2)) st.here (hr.ext st.low) hl hm ha (EF (by rw [Q7,hl];exact h2)) (by rw [Q7])) rfl ?_
    rintro _ hp ⟨rfl,st2⟩
    replace st:=st.trans st2
    have hn16:BZ ((l.drop a).take 2)<65536:=Nat.lt_of_lt_of_le (NJ _) (zw (Nat.pow_le_pow_right (by omega) (show _≤2 by rw [z6];omega)) (by decide))
    have hstep:=dH (out:=out) (n:=BZ ((l.drop a).take 2)) hl h2 rfl
    have hlong:=dE (out:=out) (n:=BZ ((l.drop a).take 2)) hl h2 rfl
    have hmore:=fun q=>dF (out:=out) (a:=a) hl q
    have hdone:=fun q=>dD (out:=out) (a:=a) hl q
    generalize BZ ((l.drop a).take 2)=n at*
    first | refine AD (Bj rfl rfl (by simp only [AI];omega)) rfl rfl ?_ | refine AD (Dm rfl rfl) rfl rfl ?_
    refine xa (Cm rfl) ?_
    refine DS ?_
    refine Dd ?_
    refine Do ?_
    refine xa (DZ rfl) ?_
    refine xa (DZ rfl) ?_
    by_cases h3:a+2+n≤m
    · refine xk (KG (n:=n) st.here (hr.ext st.low) hl hm hmc (by omega)) rfl ?_
      rintro w hp st2
      replace st:=st.trans st2
      obtain ⟨A7,n7,c7,rfl,hlen7,_,_,hrd7⟩:=st.row 1 rfl
      refine xa (Cm rfl) ?_
      refine DS ?_
      refine Dd ?_
      refine HU ?_
      refine Dd ?_
      refine Do ?_
      refine xa (DZ rfl) ?_
      refine xk (H6 (st.cell 0 rfl rfl)) rfl ?_
      rintro _ _ ⟨rfl,rfl⟩
      refine xa (Bm rfl) ?_
      refine xa (Cm rfl) ?_
      refine DS ?_
      refine I7 rfl ?_
      refine Dd ?_
      refine Do ?_
      refine xa (DZ rfl) ?_
      refine xa (In rfl rfl) ?_
      refine xa (DZ rfl) ?_
      refine Am 23 rfl (fun h=> ?_) (fun h=> ?_)
      · refine xa (DZ rfl) ?_
        refine xk (O5 (st.cell 0 rfl rfl) (st.cell 0 rfl rfl) hm (by omega)) rfl ?_
        rintro _ _ ⟨rfl,rfl⟩
        refine xa (KV rfl rfl) ?_
        refine xa (KX rfl rfl) ?_
        refine xa (Cm rfl) ?_
        refine DS ?_
        refine AK rfl (fun h=> ?_) (fun h=> ?_)
        · refine Dd ?_
          refine Do ?_
          refine xa (Cm rfl) ?_
          refine xa (Cm rfl) ?_
          refine DS ?_
          refine Af (.cons (.tmp rfl) (.cons (.tmp rfl) .nil)) ?_
          rw [hmore (by omega) (by omega)]at hpp
          refine ⟨_,by rw [←hpp],?_⟩
          rw [←hpp]
          exact (st.nilrow 5 1).only
        · refine Dd ?_
          refine Do ?_
          refine xa (DZ rfl) ?_
          refine xa (In rfl rfl) ?_
          refine xa (Cm rfl) ?_
          refine DS ?_
          refine AK rfl (fun h=> ?_) (fun h=> ?_)
          · refine Dd ?_
            refine Do ?_
            refine xa (DZ rfl) ?_
            refine xa (Cm rfl) ?_
            refine xa (Cm rfl) ?_
            refine DS ?_
            refine Af (.cons (.tmp rfl) (.cons (.tmp rfl) .nil)) ?_
            first
              | (exfalso;omega)
              | (rw [hdone (by omega) (by omega)]at hpp
                 refine ⟨_,by rw [←hpp],?_⟩
                 rw [←hpp]
                 exact st.tail.tail)
          · refine I8 ?_
            refine Hw ?_
            refine Do ?_
            refine xa (DZ rfl) ?_
            refine xa (DZ rfl) ?_
            refine BN (BY st 2 rfl (hrd7) (hlen7) (Dl _) (by simp;omega) rfl rfl rfl rfl rfl rfl rfl) rfl rfl rfl fun v hp st=> ?_
            simp only [z0,z1]at st
            refine xa (Cm rfl) ?_
            refine DS ?_
            refine Hw ?_
            rw [hstep h3 (by omega)]at hpp
            rw [←List.map_append]at st
            refine Ad (a+2+n,v,out++(l.drop (a+2)).take n) (Cu rfl rfl) ⟨(st.perm (List.Perm.swap _ _ _)).tail.perm (List.Perm.swap _ _ _),h3,?_,hpp⟩ (by simp only;omega)
            simp only [z2,z6]
            omega
      · refine IZ rfl rfl ?_
        refine IZ rfl rfl ?_
        refine IZ rfl rfl ?_
        refine xa (KW rfl rfl) ?_
        refine xa (Cm rfl) ?_
        refine DS ?_
        refine I7 rfl ?_
        refine Dd ?_
        refine Do ?_
        refine xa (DZ rfl) ?_
        refine xa (In rfl rfl) ?_
        refine xa (Cm rfl) ?_
        refine DS ?_
        refine AK rfl (fun h=> ?_) (fun h=> ?_)
        · refine Dd ?_
          refine Do ?_
          refine xa (DZ rfl) ?_
          refine xa (Cm rfl) ?_
          refine xa (Cm rfl) ?_
          refine DS ?_
          refine Af (.cons (.tmp rfl) (.cons (.tmp rfl) .nil)) ?_
          first
            | (exfalso;omega)
            | (rw [hdone (by omega) (by omega)]at hpp
               refine ⟨_,by rw [←hpp],?_⟩
               rw [←hpp]
               exact st.tail.tail)
        · refine I8 ?_
          refine Hw ?_
          refine Do ?_
          refine xa (DZ rfl) ?_
          refine xa (DZ rfl) ?_
          refine BN (BY st 2 rfl (hrd7) (hlen7) (Dl _) (by simp;omega) rfl rfl rfl rfl rfl rfl rfl) rfl rfl rfl fun v hp st=> ?_
          simp only [z0,z1]at st
          refine xa (Cm rfl) ?_
          refine DS ?_
          refine Hw ?_
          rw [hstep h3 (by omega)]at hpp
          rw [←List.map_append]at st
          refine Ad (a+2+n,v,out++(l.drop (a+2)).take n) (Cu rfl rfl) ⟨(st.perm (List.Perm.swap _ _ _)).tail.perm (List.Perm.swap _ _ _),h3,?_,hpp⟩ (by simp only;omega)
          simp only [z2,z6]
          omega
    · refine xk (Za (n:=n) st.here hm (by omega) (by omega)) rfl ?_
      rintro _ hp ⟨rfl,st2⟩
      replace st:=st.trans st2
      refine xa (Cm rfl) ?_
      refine DS ?_
      refine Dd ?_
      refine HU ?_
      refine Dd ?_
      refine Do ?_
      refine xa (DZ rfl) ?_
      refine xk (H6 (st.cell 0 rfl rfl)) rfl ?_
      rintro _ _ ⟨rfl,rfl⟩
      refine xa (Bm rfl) ?_
      refine xa (Cm rfl) ?_
      refine DS ?_
      refine I9 rfl ?_
      refine Dd ?_
      refine Do ?_
      refine xa (Cm rfl) ?_
      refine xa (Cm rfl) ?_
      refine DS ?_
      refine Af (.cons (.tmp rfl) (.cons (.tmp rfl) .nil)) ?_
      rw [hlong (by omega)]at hpp
      refine ⟨_,by rw [←hpp],?_⟩
      rw [←hpp]
      exact (st.nilrow 5 1).only
  · refine xk (Zh st.here (hr.ext st.low) hl hm ha (Zt (by rw [Q7,hl];omega))) rfl ?_
    rintro _ hp ⟨rfl,st2⟩
    replace st:=st.trans st2
    first | refine AD (Bj rfl rfl (by simp only [AI];omega)) rfl rfl ?_ | refine AD (Dm rfl rfl) rfl rfl ?_
    refine xa (Cm rfl) ?_
    refine DS ?_
    refine Dd ?_
    refine Do ?_
    refine xa (DZ rfl) ?_
    refine xa (DZ rfl) ?_
    refine xk (ZZ (st.cell 0 rfl rfl)) rfl ?_
    rintro _ _ ⟨rfl,rfl⟩
    refine xa (Cm rfl) ?_
    refine DS ?_
    refine Dd ?_
    refine HU ?_
    refine Dd ?_
    refine Do ?_
    refine xa (DZ rfl) ?_
    refine xk (H6 (st.cell 0 rfl rfl)) rfl ?_
    rintro _ _ ⟨rfl,rfl⟩
    refine xa (Bm rfl) ?_
    refine xa (Cm rfl) ?_
    refine DS ?_
    refine I9 rfl ?_
    refine Dd ?_
    refine Do ?_
    refine xa (Cm rfl) ?_
    refine xa (Cm rfl) ?_
    refine DS ?_
    refine Af (.cons (.tmp rfl) (.cons (.tmp rfl) .nil)) ?_
    rw [dG hl (by omega) ha]at hpp
    refine ⟨_,by rw [←hpp],?_⟩
    rw [←hpp]
    exact (st.nilrow 5 1).only
end Go.Bn
end

section
namespace Go.Bn
open Go Proofs
noncomputable def EV (b:List UInt8) (lv:Int):Nat×List UInt8:=
  if 0≤lv∧(E1 (EA ((D7 b lv).map BH))).length<b.length then (1,E1 (EA ((D7 b lv).map BH)))else (0,b)
theorem VL:∀ (f:Nat) (l out:List UInt8),0≤(Dt f l out).2
 | 0,_,_=>by rw [Dt];decide
 | f+1,l,out=>by
  rw [Dt]
  split
  ·decide
  ·split
   ·decide
   ·split
    ·split
     ·decide
     ·exact Int.le_refl 0
    ·exact VL f _ _
theorem dI (l:List UInt8):0≤(GV l).2:=VL _ _ _
theorem VN:∀ (f:Nat) (l out:List UInt8),(Dt f l out).1.length≤out.length+l.length
 | 0,_,_=>by rw [Dt];simp
 | f+1,l,out=>by
  rw [Dt]
  split
  ·simp
  ·split
   ·simp
   ·split
    ·split
     ·simp
     ·simp
    ·have:=VN f (l.drop (2+BZ (l.take 2))) (out++(l.drop 2).take (BZ (l.take 2)))
     rw [z2,z6,z7,z7]at this
     omega
theorem dJ (l:List UInt8):(GV l).1.length≤l.length:=by
 have:=VN (l.length+1) l []
 simpa [GV]using this
theorem fA {b:List UInt8} (lv:Int) (hb:b.length≤65536):(EA ((D7 b lv).map BH)).length≤7000+94*b.length:=by
 obtain ⟨hR,hby,_,_,hle,_⟩:=Ql (b:=b) lv hb
 have:=YR (fE hR hby)
 rw [z3]at this
 omega
theorem SM (x:Int) (h0:AA):AG Tryz.prog 145 [.int .i64 x] h0 fun v h'=>v= .bool (decide (0≤x∧x≤65536))∧h0=h':=by
 refine BE Tryz.func145 rfl fun _=>Aj ?_
 refine Am 5 rfl (fun h=> ?_) (fun h=> ?_)
 ·refine AL ?_
  first
   | exact ⟨congrArg Value.bool (decide_eq_decide.2 ⟨fun hh=>by omega,fun hh=>by omega⟩),rfl⟩
   | exact ⟨congrArg Value.bool (zu (by omega)).symm,rfl⟩
 ·refine AL ?_
  first
   | exact ⟨congrArg Value.bool (decide_eq_decide.2 ⟨fun hh=>by omega,fun hh=>by omega⟩),rfl⟩
   | exact ⟨congrArg Value.bool (zu (by omega)).symm,rfl⟩
theorem Y7 {n c:Nat} {lv:Int} {A:Option Addr} {b:List UInt8} {h0:AA} (hr:Rd h0 A (b.map AN)) (hl:b.length=n) (hn:n≤65536):
  AG Tryz.prog 105 [.slice A n c,.int .i64 lv] h0 fun v h'=>∃w,v=Al [nV (EV b lv).1,w,nV 0]∧St h0.size h0 h' [row 5 1 w ((EV b lv).2.map AN)]:=by
 obtain ⟨K,hK⟩:∃K,EV b lv=K:=⟨_,rfl⟩
 rw [hK]
 unfold EV at hK
 refine Ac Tryz.func105 rfl fun _=> ?_
 have st:=St.start h0
 refine Bu ?_
 refine xk (SM _ _) rfl ?_
 rintro _ _ ⟨rfl,rfl⟩
 rw [decide_eq_true (by omega)]
 refine xa (Bm rfl) ?_
 refine AT (.bool false) rfl (Aj ?_)
 refine AK rfl (fun h=> ?_) (fun h=> ?_)
 ·refine AB ?_
  refine xv (CK rfl) ?_
  rintro _ hp ⟨p7,rfl,hnew⟩
  replace st:=(st.new hnew).wr0
  refine AH ?_
  refine xk (fq (hr.ext st.low) hl (by omega)) rfl ?_
  rintro v16 hp2 st2
  obtain ⟨hR,hby,hdO,hsz,hle,_⟩:=Ql (b:=b) lv (by omega)
  have hbl:=fA (b:=b) lv (by omega)
  replace st:=(st.join st2).perm (List.Perm.swap _ _ _)
  clear st2
  obtain ⟨A16,n16,c16,rfl,hl16,_⟩:=st.row 1 rfl
  rw [EO _ 3 (fun _=>rfl)]at hl16
  refine xk (YV st.here (fun h' rs hs=>hs.rdM (List.mem_append_right _ zp)) (show (D7 b lv).length=n16 by omega) (by omega) hby (by simp)) rfl ?_
  rintro _ hp3 ⟨rfl,st3⟩
  rw [if_pos hR,z4]at st3
  replace st:=st.trans st3
  clear st3
  have hpl:=ci (EA ((D7 b lv).map BH))
  obtain ⟨BL,hBL⟩:∃BL,EA ((D7 b lv).map BH)=BL:=⟨_,rfl⟩
  rw [hBL]at st hK hbl hpl
  refine AF ?_
  refine xk (gk st.here (by omega)) rfl ?_
  rintro _ _ ⟨rfl,rfl⟩
  first | refine AD (CH (n:=7) rfl rfl (by simp only [AI];omega)) rfl rfl ?_ | refine AD (IF rfl rfl (by simp only [AI];omega)) rfl rfl ?_ | refine AD (IE rfl rfl) rfl rfl ?_
  first | refine AD (KY (n:=8) rfl rfl (by omega) (by simp only [AI];omega)) rfl rfl ?_ | refine AD (Nd rfl rfl (by omega) (by omega) (by simp only [AI];omega)) rfl rfl ?_ | refine AD (Nc rfl rfl (by omega)) rfl rfl ?_
  refine AJ ?_
  refine AK rfl (fun h=> ?_) (fun h=> ?_)
  ·rw [if_pos ⟨by omega,by omega⟩]at hK
   subst hK
   refine AB ?_
   refine xk (gZ st.here (by omega)) rfl ?_
   rintro v24 hp5 st5
   refine AH ?_
   exact ⟨_,rfl,(st.join st5).keep 1⟩
  ·rw [if_neg (by omega)]at hK
   subst hK
   refine AF ?_
   refine xv (Ji rfl) ?_
   rintro v25 hp hnew
   replace st:=st.new hnew
   refine AC ?_
   refine BN (BY st 0 rfl (hr.ext st.low) (by simpa using hl) (Dl _) (by simp;omega) rfl rfl rfl rfl rfl rfl rfl) rfl rfl rfl fun v hp st=> ?_
   simp only [z0,z1]at st
   rw [z4]at st
   refine AH ?_
   exact ⟨_,rfl,st.keep 1⟩
 ·rw [if_neg (by omega)]at hK
  subst hK
  refine AF ?_
  refine xv (Ji rfl) ?_
  rintro v25 hp hnew
  replace st:=st.new hnew
  refine AC ?_
  refine BN (BY st 0 rfl (hr.ext st.low) (by simpa using hl) (Dl _) (by simp;omega) rfl rfl rfl rfl rfl rfl rfl) rfl rfl rfl fun v hp st=> ?_
  simp only [z0,z1]at st
  rw [z4]at st
  refine AH ?_
  exact ⟨_,rfl,st.keep 1⟩
theorem Y8 {m c size:Nat} {A:Option Addr} {l:List UInt8} {h0:AA} (hr:Rd h0 A (l.map AN)) (hl:l.length=m) (hm:m≤1048576) (hs:size≤65536):
  AG Tryz.prog 146 [.slice A m c,nV size] h0 fun v h'=>∃w,v=Al [w,nV (Fu 1 l size).2]∧St h0.size h0 h' [row 5 1 w ((Fu 1 l size).1.map AN)]:=by
 obtain ⟨U,hU⟩:∃U,Fu 1 l size=U:=⟨_,rfl⟩
 rw [hU]
 unfold Fu at hU
 have hok:=YT (bs:=AR l) (most:=(size:Int)) (by omega)
 have hbl:=Gk l
 obtain ⟨T,hT⟩:∃T,De (AR l) size=T:=⟨_,rfl⟩
 rw [hT]at hU hok
 rw [if_neg (by omega),if_neg (by omega),if_pos rfl]at hU
 refine Ac Tryz.func146 rfl fun _=>AP ?_
 refine xk (dw) rfl ?_
 rintro _ hp1 ⟨q,rfl,st⟩
 refine AL ?_
 refine xk (YX (most:=(size:Int)) st.here (fun h' hh=>hr.ext (st.low.trans hh)) hl (by omega) (by simp only [AI];omega)) rfl ?_
 rintro _ hp2 ⟨w,a',rfl,ha',hat,st2⟩
 rw [hT]at st2 hat ⊢
 replace st:=st.trans st2
 clear st2
 refine By ?_
 refine AK rfl (fun h=> ?_) (fun h=> ?_)
 ·rw [if_pos (by omega)]at hU
  subst hU
  refine AO ?_
  exact ⟨_,rfl,(st.nilrow 5 1).keep 1⟩
 ·have hT0:T.2.2.2=0:=by omega
  rw [if_neg (by omega)]at hU
  obtain ⟨hk,hk2,hk3,hk4,hk5⟩:=hok hT0
  have ha2:=hat hT0
  subst ha2
  obtain ⟨A7,n7,c7,rfl,hl7,_,_,hr7⟩:=st.row 1 rfl
  rw [EO _ 3 (fun _=>rfl)]at hl7
  refine AH ?_
  refine xk (fj (most:=size) hr7 (show T.1.length=n7 by omega) (by omega) hk (by omega) (by omega)) rfl ?_
  rintro _ hp3 ⟨w9,rfl,st3⟩
  replace st:=st.join st3
  simp only [z5,z4]at st
  clear st3
  have hxl:=Sk (ts:=T.1) [] fun t ht=>(hk.ok t ht).1
  obtain ⟨A9,n9,c9,rfl,hl9,_⟩:=st.row 0 rfl
  rw [z3,zf,hxl,zk,Nat.zero_add]at hl9
  refine By ?_
  refine AT (.bool false) (congrArg Value.bool (zu (by decide))) (Bu ?_)
  refine AK rfl (fun h=> ?_) (fun h=> ?_)
  ·rw [if_pos (by omega)]at hU
   subst hU
   refine AL ?_
   exact ⟨_,rfl,(st.nilrow 5 1).keep 1⟩
  ·rw [if_neg (by omega)]at hU
   refine AF ?_
   refine xk (QU (st.cell 1 (i:=0) rfl rfl) (st.cell 1 (i:=1) rfl rfl) (by omega) ha') rfl ?_
   rintro _ _ ⟨rfl,rfl⟩
   refine AB ?_
   refine Am 40 rfl (fun h=> ?_) (fun h=> ?_)
   ·rw [if_pos (.inl (by omega))]at hU
    subst hU
    refine B3 ?_
    exact ⟨_,rfl,(st.nilrow 5 1).keep 1⟩
   ·refine AC ?_
    refine xk (QX (k:=8) (st.cell 1 (i:=0) rfl rfl) (st.cell 1 (i:=1) rfl rfl) (hr.ext st.low) hl (by omega) ha') rfl ?_
    rintro _ _ ⟨rfl,rfl⟩
    rw [show wd 32 8=8 from rfl]
    refine AJ ?_
    refine AK rfl (fun h=> ?_) (fun h=> ?_)
    ·rw [if_pos (.inr (by omega))]at hU
     subst hU
     refine AL ?_
     exact ⟨_,rfl,(st.nilrow 5 1).keep 1⟩
    ·rw [if_neg (by omega)]at hU
     subst hU
     refine Aj ?_
     exact ⟨_,rfl,st.keep 1⟩
theorem SO {m c:Nat} {mt size:Int} {A:Option Addr} {l:List UInt8} {h0:AA} (hr:Rd h0 A (l.map AN)) (hl:l.length=m) (hm:m≤1048576) (hmc:m≤c):
  AG Tryz.prog 101 [.int .i64 mt,.slice A m c,.int .i64 size] h0 fun v h'=>∃w,v=Al [w,nV (Fu mt l size).2]∧St h0.size h0 h' [row 5 1 w ((Fu mt l size).1.map AN)]:=by
 obtain ⟨U,hU⟩:∃U,Fu mt l size=U:=⟨_,rfl⟩
 have hUU:=hU
 rw [hU]
 unfold Fu at hU
 have hpe:=dI l
 have hpl:=dJ l
 refine Bg Tryz.func101 rfl fun _=> ?_
 have st:=St.start h0
 refine Bu ?_
 refine Am 12 rfl (fun h=> ?_) (fun h=> ?_)
 ·rw [if_pos (by omega)]at hU
  subst hU
  refine Bu ?_
  exact ⟨_,rfl,(st.nilrow 5 1).keep 1⟩
 ·refine AJ ?_
  refine AK rfl (fun h=> ?_) (fun h=> ?_)
  ·rw [if_pos (by omega)]at hU
   subst hU
   refine AL ?_
   exact ⟨_,rfl,(st.nilrow 5 1).keep 1⟩
  ·rw [if_neg (by omega)]at hU
   refine AH ?_
   refine xk (SM _ _) rfl ?_
   rintro _ _ ⟨rfl,rfl⟩
   refine AB ?_
   refine AK rfl (fun h=> ?_) (fun h=> ?_)
   ·rw [if_pos (by omega)]at hU
    subst hU
    refine AL ?_
    exact ⟨_,rfl,(st.nilrow 5 1).keep 1⟩
   ·rw [if_neg (by omega)]at hU
    obtain ⟨s,rfl⟩:∃s:Nat,size=(s:Int):=⟨size.toNat,by omega⟩
    refine FX ?_
    refine AK rfl (fun h=> ?_) (fun h=> ?_)
    ·obtain rfl:mt=1:=h
     refine AJ ?_
     refine xk (Y8 (size:=s) hr hl hm (by omega)) rfl ?_
     rintro _ hp2 ⟨w,rfl,st2⟩
     rw [hUU]at st2 ⊢
     refine AL ?_
     exact ⟨_,rfl,st2⟩
    ·rw [if_neg (by omega)]at hU
     refine AH ?_
     refine AK rfl (fun h=> ?_) (fun h=> ?_)
     ·rw [if_pos (by omega)]at hU
      refine AB ?_
      refine xk (dK hr hl (by omega) hmc) rfl ?_
      rintro _ hp3 ⟨w3,rfl,st3⟩
      replace st:=st.join st3
      simp only [z5,z4]at st
      clear st3
      obtain ⟨A8,n8,c8,rfl,hl8,_,_,hr8⟩:=st.row 0 rfl
      rw [z3,zf]at hl8
      refine Cp ?_
      refine AK rfl (fun h=> ?_) (fun h=> ?_)
      ·rw [if_pos (by omega)]at hU
       subst hU
       refine AO ?_
       exact ⟨_,by rw [show (GV l).2=(((GV l).2.toNat:Nat):Int) by omega];rfl,(st.nilrow 5 1).keep 1⟩
      ·rw [if_neg (by omega)]at hU
       refine AP ?_
       refine AK rfl (fun h=> ?_) (fun h=> ?_)
       ·rw [if_pos (by omega)]at hU
        subst hU
        refine AL ?_
        exact ⟨_,rfl,(st.nilrow 5 1).keep 1⟩
       ·rw [if_neg (by omega)]at hU
        subst hU
        refine AJ ?_
        refine xv (Ji rfl) ?_
        rintro v25 hp hnew
        replace st:=st.new hnew
        refine AC ?_
        refine BN (BY st 0 rfl (hr8.ext hnew.1) (by rw [z3];omega) (Dl _) (by simp;omega) rfl rfl rfl rfl rfl rfl rfl) rfl rfl rfl fun v hp st=> ?_
        simp only [z0,z1]at st
        rw [z4]at st
        refine AJ ?_
        exact ⟨_,rfl,st.keep 1⟩
     ·rw [if_neg (by omega)]at hU
      refine AP ?_
      refine AT (.bool false) (congrArg Value.bool (zu (by decide))) (Bu ?_)
      refine AK rfl (fun h=> ?_) (fun h=> ?_)
      ·rw [if_pos (by omega)]at hU
       subst hU
       refine AL ?_
       exact ⟨_,rfl,(st.nilrow 5 1).keep 1⟩
      ·rw [if_neg (by omega)]at hU
       subst hU
       refine AJ ?_
       refine xv (Ji rfl) ?_
       rintro v25 hp hnew
       replace st:=st.new hnew
       refine AC ?_
       refine BN (BY st 0 rfl (hr.ext st.low) (by rw [z3];omega) (Dl _) (by simp;omega) rfl rfl rfl rfl rfl rfl rfl) rfl rfl rfl fun v hp st=> ?_
       simp only [z0,z1]at st
       rw [z4]at st
       refine AJ ?_
       exact ⟨_,rfl,st.keep 1⟩
end Go.Bn
end

section
namespace Go.Bn
theorem cd {b:List UInt8} (lv:Int) (hb:b.length≤65536):Fu ((EV b lv).1:Nat) (EV b lv).2 (b.length:Nat)=(b,0)∧∀o:Int,(Fu ((EV b lv).1:Nat) (EV b lv).2 o).2=0↔o=(b.length:Int):=by
 unfold EV
 split
 ·obtain ⟨hR,hby,hd,hs,_,hx⟩:=Ql (b:=b) lv hb
  obtain ⟨ts,hts⟩:∃ts,D7 b lv=ts:=⟨_,rfl⟩
  rw [hts]at hR hby hd hs hx ⊢
  have hbp:=YG (EA (ts.map BH))
  have hback:=fun (most:Int) (h:((CQ ts:Nat):Int)≤most) Z=>YS hR hby hd h Z
  have hshort:=fun (most:Int) (h0:0≤most) (h:most < (CQ ts:Int)) Z=>YU hR hby hd h0 h Z
  obtain ⟨BL,hBL⟩:∃BL,EA (ts.map BH)=BL:=⟨_,rfl⟩
  simp only [hBL]at hbp hback hshort ⊢
  have hnum:=bl BL ((8-BL.length%8)%8) 8
  have hzl:(AR (E1 BL)).length-BL.length<8:=by rw [hbp,z2,zg];omega
  rw [←hbp]at hnum
  have key:∀o:Int,Fu ((1:Nat):Int) (E1 BL) o=if o=(b.length:Int)then (b,0)else ([],5):=fun o=>by
   unfold Fu
   rw [if_neg (by omega)]
   by_cases h1:o<0∨65536<o
   ·rw [if_pos h1,if_neg (by omega)]
   ·rw [if_neg h1,if_pos (by rfl)]
    by_cases h2:o < (b.length:Int)
    ·rw [hbp,hshort o (by omega) (by omega)]
     rw [if_pos (by simp),if_neg (by omega)]
    ·have hT:=hback o (by omega) (List.replicate ((8-BL.length%8)%8) false)
     rw [←hbp]at hT
     rw [hT]
     simp only
     rw [if_neg (by simp)]
     by_cases h3:o=(b.length:Int)
     ·rw [if_neg (by omega),if_neg (by omega),if_pos h3,hx]
     ·rw [if_pos (by omega),if_neg h3]
  refine ⟨by rw [key,if_pos rfl],fun o=> ?_⟩
  rw [key]
  split
  ·rename_i h;exact ⟨fun _=>h,fun _=>rfl⟩
  ·rename_i h;exact ⟨fun hh=>(by cases hh),fun hh=>absurd hh h⟩
 ·have key:∀o:Int,Fu ((0:Nat):Int) b o=if o=(b.length:Int)then (b,0)else ([],5):=fun o=>by
   unfold Fu
   rw [if_neg (by omega)]
   by_cases h1:o<0∨65536<o
   ·rw [if_pos h1,if_neg (by omega)]
   ·rw [if_neg h1,if_neg (by decide),if_neg (by decide)]
    by_cases h3:o=(b.length:Int)
    ·rw [if_neg (by omega),if_pos h3]
    ·rw [if_pos (by omega),if_neg h3]
  refine ⟨by rw [key,if_pos rfl],fun o=> ?_⟩
  rw [key]
  split
  ·rename_i h;exact ⟨fun _=>h,fun _=>rfl⟩
  ·rename_i h;exact ⟨fun hh=>(by cases hh),fun hh=>absurd hh h⟩
end Go.Bn
end

section
namespace Go.Bn
def Gc (n:Nat):Nat:=if n%2=1 then n/2^^^3988292384 else n/2
def C3:Nat→Nat→Nat
  | 0,n=>n
  | k+1,n=>C3 k (Gc n)
def Gp (n:Nat) (l:List UInt8):Nat:=l.foldl (fun n b=>C3 8 (n^^^b.toNat)) n
theorem Zw (n:Nat) (b:UInt8) (r:List UInt8):Gp n (b::r)=Gp (C3 8 (n^^^b.toNat)) r:=rfl
theorem ft {n:Nat} (h:n<4294967296):Gc n<4294967296:=by
 unfold Gc
 split
 ·exact Nat.xor_lt_two_pow (n:=32) (by omega) (by decide)
 ·omega
theorem OG:∀ (k:Nat) {n:Nat},n<4294967296→C3 k n<4294967296
 | 0,_,h=>h
 | k+1,_,h=>OG k (ft h)
theorem Wp:∀ (k n:Nat),C3 (k+1) n=Gc (C3 k n)
 | 0,_=>rfl
 | k+1,n=>by rw [C3,Wp k,C3]
theorem fx:∀ (j k n:Nat),C3 (j+k) n=C3 k (C3 j n)
 | 0,k,n=>by rw [Nat.zero_add];rfl
 | j+1,k,n=>by rw [show j+1+k=(j+k)+1 by omega,C3,fx j k,C3]
theorem gz (x y:Nat):(x^^^y)%2=(x%2+y%2)%2:=by
 have:=Nat.xor_mod_two_pow (a:=x) (b:=y) (n:=1)
 rw [Nat.pow_one]at this
 rw [this]
 rcases Nat.mod_two_eq_zero_or_one x with h | h <;> rcases Nat.mod_two_eq_zero_or_one y with h' | h' <;> rw [h,h'] <;> rfl
theorem gw (x y:Nat):(x^^^y)/2=x/2^^^y/2:=by
 have:=Nat.xor_div_two_pow (a:=x) (b:=y) (n:=1)
 rwa [Nat.pow_one]at this
theorem fv (x y:Nat):Gc (x^^^y)=Gc x^^^Gc y:=by
 have h:=gz x y
 have h2:=gw x y
 unfold Gc
 rcases Nat.mod_two_eq_zero_or_one x with hx | hx <;> rcases Nat.mod_two_eq_zero_or_one y with hy | hy <;> rw [hx,hy]at h <;> rw [hx,hy,h,h2] <;> simp only [Nat.reduceAdd,Nat.reduceMod,if_true,if_false,Nat.zero_ne_one,reduceIte]
 ·rw [Nat.xor_assoc]
 ·rw [Nat.xor_assoc,Nat.xor_assoc];congr 1;exact Nat.xor_comm _ _
 ·rw [show x/2^^^3988292384^^^(y/2^^^3988292384)=x/2^^^y/2^^^(3988292384^^^3988292384) by ac_rfl,Nat.xor_self,Nat.xor_zero]
theorem fu (y:Nat):Gc (2*y)=y:=by
 unfold Gc
 rw [if_neg (by omega)];omega
theorem Wq:∀ (k x y:Nat),C3 k (x^^^y)=C3 k x^^^C3 k y
 | 0,_,_=>rfl
 | k+1,x,y=>by rw [C3,fv,Wq k];rfl
theorem Wo:∀ (k y:Nat),C3 k (2^k*y)=y
 | 0,y=>by simp [C3]
 | k+1,y=>by rw [C3,Nat.pow_succ,Nat.mul_comm (2^k) 2,Nat.mul_assoc,fu,Wo k]
theorem fF (k n:Nat):n=n%2^k^^^2^k*(n/2^k):=by
 apply Nat.eq_of_testBit_eq
 intro i
 rw [Nat.testBit_xor,Nat.testBit_mod_two_pow,Nat.testBit_two_pow_mul,Nat.testBit_div_two_pow]
 by_cases h:i<k
 ·simp [h,Nat.not_le.2 h]
 ·simp [h,Nat.not_lt.1 h]
theorem fy (n b:Nat) (hb:b<256):C3 8 (n^^^b)=C3 8 (n%256^^^b)^^^n/256:=by
 have e:n^^^b=(n%256^^^b)^^^2^8*(n/256):=by
  have h:=fF 8 n
  rw [show (2:Nat)^8=256 by rfl]at h ⊢
  calc n^^^b=(n%256^^^256*(n/256))^^^b:=by rw [←h]
   _=_:=by ac_rfl
 rw [e,Wq,Wo]
theorem PG (l:List UInt8) {n:Nat} (h:n<4294967296):Gp n l<4294967296:=by
 induction l generalizing n with
 | nil=>exact h
 | cons b r ih=>
  have hb:=b.toNat_lt
  rw [Zw]
  exact ih (OG 8 (Nat.xor_lt_two_pow (n:=32) h (by omega)))
theorem Zx (l:List UInt8) (b:UInt8) (n:Nat):Gp n (l++[b])=C3 8 (Gp n l^^^b.toNat):=by simp [Gp]
end Go.Bn
end

section
namespace Go.Bn
def CM (l:List UInt8):Nat:=Gp 4294967295 l^^^4294967295
theorem Gz (l:List UInt8):CM l<4294967296:=Nat.xor_lt_two_pow (n:=32) (PG l (by omega)) (by decide)
end Go.Bn
end

section
namespace Go.Bn
structure AQ where
  seq:Int
  en:Int
  dir:Int
  cl:Bool
  deriving DecidableEq
def AQ.nil:AQ:=⟨0,0,0,false⟩
def AQ.right (s:AQ):Prop:=0≤s.seq∧s.seq≤2147483647∧1024≤s.en∧s.en≤2097152∧(if s.cl=true then 20≤s.dir∧s.dir≤16420∧s.en+s.dir≤2097152 else s.dir=0)
instance AQ.decRight (s:AQ):Decidable s.right:=by unfold AQ.right;infer_instance
def AQ.head (s:AQ):List UInt8:=[83,76,79,84]++Ay 4 s.seq.toNat++Ay 4 s.en.toNat++Ay 4 s.dir.toNat++[if s.cl=true then 1 else 0]
def AQ.bytes (s:AQ):List UInt8:=s.head++Ay 4 (CM s.head)++List.replicate 491 0
theorem AQ.head_length (s:AQ):s.head.length=17:=by simp [AQ.head,Cs]
theorem AQ.bytes_length (s:AQ):s.bytes.length=512:=by simp [AQ.bytes,AQ.head_length,Cs,-List.reduceReplicate]
def E3 (l:List UInt8):AQ×Int:=
  if l.length≠512 then (AQ.nil,2)
  else if l.take 4≠[83,76,79,84]then (AQ.nil,3)
  else if BZ ((l.drop 17).take 4)≠CM (l.take 17)then (AQ.nil,4)
  else if 1 < (l.getD 16 0).toNat∨l.drop 21≠List.replicate 491 0∨¬ (AQ.mk (BZ ((l.drop 4).take 4)) (BZ ((l.drop 8).take 4)) (BZ ((l.drop 12).take 4)) ((l.getD 16 0).toNat==1)).right then (AQ.nil,3)
  else (AQ.mk (BZ ((l.drop 4).take 4)) (BZ ((l.drop 8).take 4)) (BZ ((l.drop 12).take 4)) ((l.getD 16 0).toNat==1),0)
theorem PW (n:Int) (h0:0≤n) (h:n<4294967296):((BZ (Ay 4 n.toNat):Nat):Int)=n:=by
 rw [NI,Nat.mod_eq_of_lt (by omega)];omega
theorem WD (s:AQ) (h:s.right):E3 s.bytes=(s,0):=by
 have hl:=s.bytes_length
 have hh:=s.head_length
 obtain ⟨h1,h2,h3,h4,h5⟩:=h
 have hd:0≤s.dir∧s.dir<4294967296:=by split at h5 <;> omega
 have hsum:CM s.head<4294967296:=Gz _
 have e17:s.bytes.take 17=s.head:=by rw [AQ.bytes,z8,List.take_left' hh]
 have e174:(s.bytes.drop 17).take 4=Ay 4 (CM s.head):=by
  rw [AQ.bytes,z8,List.drop_left' hh,List.take_left' (Cs 4 _)]
 have e21:s.bytes.drop 21=List.replicate 491 0:=by
  rw [AQ.bytes,List.drop_left' (by rw [z2,hh,Cs])]
 have e4:s.bytes.take 4=[83,76,79,84]:=by simp [AQ.bytes,AQ.head,-List.reduceReplicate]
 have d4:(s.bytes.drop 4).take 4=Ay 4 s.seq.toNat:=by simp [AQ.bytes,AQ.head,Ay,-List.reduceReplicate]
 have d8:(s.bytes.drop 8).take 4=Ay 4 s.en.toNat:=by simp [AQ.bytes,AQ.head,Ay,-List.reduceReplicate]
 have d12:(s.bytes.drop 12).take 4=Ay 4 s.dir.toNat:=by simp [AQ.bytes,AQ.head,Ay,-List.reduceReplicate]
 have d16:s.bytes.getD 16 0=if s.cl=true then 1 else 0:=by simp [AQ.bytes,AQ.head,Ay,-List.reduceReplicate]
 have hc:((s.bytes.getD 16 0).toNat==1)=s.cl:=by rw [d16];cases s.cl <;> rfl
 have hc1:¬ 1 < (s.bytes.getD 16 0).toNat:=by rw [d16];cases s.cl <;> decide
 unfold E3
 rw [if_neg (by rw [hl];simp),if_neg (by rw [e4];simp),if_neg (by rw [e174,e17,NI,Nat.mod_eq_of_lt (by omega)];simp),d4,d8,d12,hc,PW _ h1 (by omega),PW _ (by omega) (by omega),PW _ hd.1 hd.2]
 rw [if_neg]
 rintro (h | h | h)
 ·exact hc1 h
 ·exact h e21
 ·exact h ⟨h1,h2,h3,h4,h5⟩
end Go.Bn
end

section
namespace Go.Bn
def CC (b:List UInt8) (k:Nat):List UInt8:=(b.drop (k*512)).take 512
theorem Gy (b:List UInt8) (k j:Nat) (hj:j<512):(CC b k)[j]? =b[k*512+j]? :=by
 unfold CC;rw [List.getElem?_take,if_pos hj,List.getElem?_drop]
theorem Kg {b:List UInt8} {k:Nat} (h:(k+1)*512≤b.length):(CC b k).length=512:=by
 unfold CC;rw [z6,z7];omega
def Ba (n:Nat):Nat:=(n+511)/512
structure Dk where
  now:List UInt8
  safe:List (Option (List UInt8))
  wait:List (Nat×List UInt8)
structure Dk.ok (d:Dk):Prop where
  len:d.now.length=d.safe.length*512
  safe:∀s,some s∈d.safe→s.length=512
  wait:∀w∈d.wait,w.1<d.safe.length∧w.2.length=512
def Dk.nil:Dk:=⟨[],[],[]⟩
theorem Dk.nil_ok:Dk.nil.ok:=⟨rfl,fun _ h=>by simp [Dk.nil]at h,fun _ h=>by simp [Dk.nil]at h⟩
def FT (b:List UInt8) (i:Nat) (c:List UInt8):List UInt8:=b.take i++(c++b.drop (i+c.length))
theorem MD {b:List UInt8} {i:Nat} {c:List UInt8} (h:i+c.length≤b.length):(FT b i c).length=b.length:=by
 simp only [FT,z2,z6,z7];omega
theorem Nw {b:List UInt8} {i:Nat} {c:List UInt8} (h:i+c.length≤b.length) (p:Nat):(FT b i c)[p]? =if i≤p∧p<i+c.length then c[p-i]? else b[p]? :=by
 have hl:(b.take i).length=i:=by rw [z6];omega
 unfold FT
 rcases Nat.lt_or_ge p i with h1 | h1
 ·rw [zi (by omega),List.getElem?_take,if_pos h1,if_neg (by omega)]
 ·rw [zh (by omega),hl]
  rcases Nat.lt_or_ge p (i+c.length)with h2 | h2
  ·rw [zi (by omega),if_pos ⟨h1,h2⟩]
  ·rw [zh (by omega),List.getElem?_drop,if_neg (by omega)];congr 1;omega
def Dk.grow (d:Dk) (n:Nat):Dk:=⟨d.now++List.replicate ((n-d.safe.length)*512) 0,d.safe++List.replicate (n-d.safe.length) none,d.wait⟩
theorem Dk.grow_ok {d:Dk} (h:d.ok) (n:Nat):(d.grow n).ok∧(d.grow n).safe.length=max d.safe.length n:=by
 refine ⟨⟨?_,fun s hs=> ?_,fun w hw=> ?_⟩,?_⟩
 ·simp only [Dk.grow,z2,zg,h.len];omega
 ·simp only [Dk.grow,List.mem_append]at hs
  rcases hs with hs | hs
  ·exact h.safe s hs
  ·cases (List.mem_replicate.1 hs).2
 ·have:=h.wait w hw
  simp only [Dk.grow,z2];exact ⟨by omega,this.2⟩
 ·simp only [Dk.grow,z2,zg];omega
def OJ (m:List UInt8) (i n:Nat):List (Nat×List UInt8):=(List.range' (i/512) (Ba (i+n)-i/512)).map fun k=>(k,CC m k)
def Dk.write (d:Dk) (i:Nat) (c:List UInt8):Dk:=
  if c=[]then d else
  ⟨FT (d.grow (Ba (i+c.length))).now i c,(d.grow (Ba (i+c.length))).safe,d.wait++OJ (FT (d.grow (Ba (i+c.length))).now i c) i c.length⟩
def Dk.sync (d:Dk):Dk:=⟨d.now,(List.range d.safe.length).map fun k=>some (CC d.now k),[]⟩
theorem Dk.sync_ok {d:Dk} (h:d.ok):d.sync.ok:=by
 have hl:=h.len
 refine ⟨by simp [Dk.sync,h.len],fun s hs=> ?_,fun w hw=>by simp [Dk.sync]at hw⟩
 simp only [Dk.sync,List.mem_map,List.mem_range]at hs
 obtain ⟨k,hk,hs⟩:=hs
 cases hs
 exact Kg (by omega)
theorem N9 (n:Nat):n≤Ba n*512:=by unfold Ba;omega
theorem Dk.write_ok {d:Dk} (h:d.ok) (i:Nat) (c:List UInt8):(d.write i c).ok:=by
 unfold Dk.write
 split
 ·exact h
 ·obtain ⟨hg,hs⟩:=d.grow_ok h (Ba (i+c.length))
  have h1:=N9 (i+c.length)
  have h2:=hg.len
  have hm:i+c.length≤(d.grow (Ba (i+c.length))).now.length:=by rw [h2,hs];omega
  refine ⟨by rw [MD hm];exact h2,hg.safe,fun w hw=> ?_⟩
  rcases List.mem_append.1 hw with hw | hw
  ·exact hg.wait w hw
  ·simp only [OJ,List.mem_map,List.mem_range'_1]at hw
   obtain ⟨k,hk,rfl⟩:=hw
   exact ⟨by simp only;omega,Kg (by rw [MD hm,h2];omega)⟩
theorem Dk.write_now {d:Dk} (h:d.ok) (i:Nat) {c:List UInt8} (hc:c≠[]) (p:Nat) (hp:p<d.now.length∨i≤p∧p<i+c.length):(d.write i c).now[p]? =if i≤p∧p<i+c.length then c[p-i]? else d.now[p]? :=by
 obtain ⟨hg,hs⟩:=d.grow_ok h (Ba (i+c.length))
 have h1:=N9 (i+c.length)
 have h2:=hg.len
 have hm:i+c.length≤(d.grow (Ba (i+c.length))).now.length:=by rw [h2,hs];omega
 unfold Dk.write
 rw [if_neg hc]
 simp only [Nw hm]
 split
 ·rfl
 ·rename_i hn
  simp only [Dk.grow]
  rw [zi (by omega)]
theorem Dk.write_size {d:Dk} (h:d.ok) (i:Nat) {c:List UInt8} (hc:c≠[]):(d.write i c).safe.length=max d.safe.length (Ba (i+c.length)):=by
 unfold Dk.write;rw [if_neg hc];exact (d.grow_ok h _).2
def IY (d:Dk) (k:Nat) (s:List UInt8):Prop:=s.length=512∧(d.safe[k]? =some (some s)∨d.safe[k]? =some none∨(k,s)∈d.wait)
structure FY (d:Dk) (b:List UInt8):Prop where
  len:b.length=d.now.length
  ver:∀k,k<d.safe.length→IY d k (CC b k)
theorem eV {b c:List UInt8} (hl:b.length=c.length) (n:Nat) (hn:b.length=n*512) (h:∀k,k<n→CC b k=CC c k):b=c:=by
 refine List.ext_getElem? fun p=> ?_
 rcases Nat.lt_or_ge p b.length with hp | hp
 ·have h1:=Gy b (p/512) (p%512) (Nat.mod_lt _ (by decide))
  have h2:=Gy c (p/512) (p%512) (Nat.mod_lt _ (by decide))
  have e:p/512*512+p%512=p:=by omega
  rw [e]at h1 h2
  rw [←h1,←h2,h (p/512) (by omega)]
 ·rw [List.getElem?_eq_none hp,List.getElem?_eq_none (by omega)]
theorem FY.synced {d:Dk} (h:d.ok) {b:List UInt8} (ha:FY d.sync b):b=d.now:=by
 refine eV ha.len d.safe.length (ha.len.trans h.len) fun k hk=> ?_
 obtain ⟨_,hv⟩:=ha.ver k (by simpa [Dk.sync]using hk)
 simp only [Dk.sync,zr,List.getElem?_range hk,Option.map_some,Option.some.injEq,reduceCtorEq,zl,or_false]at hv
 exact hv.symm
def G7 (d:Dk) (lo hi:Nat) (B:List UInt8):Prop:=hi≤d.now.length∧∀k s,IY d k s→∀j,j<512→lo≤k*512+j→k*512+j<hi→s[j]? =B[k*512+j]?
theorem G7.after {d:Dk} {lo hi:Nat} {B b:List UInt8} (h:d.ok) (hf:G7 d lo hi B) (ha:FY d b) (p:Nat) (h1:lo≤p) (h2:p<hi):b[p]? =B[p]? :=by
 have hl:=h.len
 have hh:=hf.1
 have e:p/512*512+p%512=p:=by omega
 have:=hf.2 (p/512) _ (ha.ver (p/512) (by omega)) (p%512) (Nat.mod_lt _ (by decide)) (by omega) (by omega)
 rwa [Gy _ _ _ (Nat.mod_lt _ (by decide)),e]at this
theorem G7.sync {d:Dk} {lo hi:Nat} {B:List UInt8} (h:d.ok) (hh:hi≤d.now.length) (hb:∀p,lo≤p→p<hi→d.now[p]? =B[p]?):G7 d.sync lo hi B:=by
 refine ⟨hh,fun k s hv j hj h1 h2=> ?_⟩
 have hl:=h.len
 have hk:k<d.safe.length:=by omega
 obtain ⟨_,hv⟩:=hv
 simp only [Dk.sync,zr,List.getElem?_range hk,Option.map_some,Option.some.injEq,reduceCtorEq,zl,or_false]at hv
 rw [←hv,Gy _ _ _ hj,hb _ h1 h2]
theorem IY.write {d:Dk} (h:d.ok) {i:Nat} {c:List UInt8} (hc:c≠[]) {k:Nat} {s:List UInt8} (hk:k<d.safe.length) (hv:IY (d.write i c) k s):IY d k s∨(i/512≤k∧k<Ba (i+c.length)∧s=CC (d.write i c).now k):=by
 obtain ⟨h5,hv⟩:=hv
 unfold Dk.write at hv ⊢
 rw [if_neg hc]at hv ⊢
 simp only [Dk.grow,zi hk,List.mem_append]at hv ⊢
 rcases hv with hv | hv | hv | hv
 ·exact .inl ⟨h5,.inl hv⟩
 ·exact .inl ⟨h5,.inr (.inl hv)⟩
 ·exact .inl ⟨h5,.inr (.inr hv)⟩
 ·simp only [OJ,List.mem_map,List.mem_range'_1,Prod.mk.injEq]at hv
  obtain ⟨k',hk',rfl,rfl⟩:=hv
  exact .inr ⟨by omega,by omega,rfl⟩
theorem G7.write {d:Dk} (h:d.ok) {lo hi:Nat} {B:List UInt8} (hf:G7 d lo hi B) (hb:∀p,lo≤p→p<hi→d.now[p]? =B[p]?) (i:Nat) (c:List UInt8) (hi':i+c.length≤lo∨hi≤i):G7 (d.write i c) lo hi B∧∀p,lo≤p→p<hi→(d.write i c).now[p]? =B[p]? :=by
 rcases Decidable.em (c=[])with hc | hc
 ·unfold Dk.write;rw [if_pos hc];exact ⟨hf,hb⟩
 have hl:=h.len
 have hh:=hf.1
 have hnow:∀p,lo≤p→p<hi→(d.write i c).now[p]? =B[p]? :=fun p h1 h2=>by
  rw [Dk.write_now h i hc p (.inl (by omega)),if_neg (by omega)];exact hb p h1 h2
 refine ⟨⟨?_,fun k s hv j hj h1 h2=> ?_⟩,hnow⟩
 ·have:=(d.write_ok h i c).len
  rw [Dk.write_size h i hc]at this;omega
 ·rcases hv.write h hc (by omega)with hv | ⟨_,_,rfl⟩
  ·exact hf.2 k s hv j hj h1 h2
  ·rw [Gy _ _ _ hj];exact hnow _ h1 h2
def Vs (d:Dk) (k:Nat) (L:List (List UInt8)):Prop:=k<d.safe.length∧∀s,IY d k s→s∈L
theorem Vs.after {d:Dk} {k:Nat} {L:List (List UInt8)} {b:List UInt8} (h:Vs d k L) (ha:FY d b):CC b k∈L:=h.2 _ (ha.ver k h.1)
theorem Vs.write {d:Dk} (h:d.ok) {k:Nat} {L:List (List UInt8)} (hv:Vs d k L) {i:Nat} {c:List UInt8} (hi:Ba (i+c.length)≤k∨k<i/512):Vs (d.write i c) k L:=by
 rcases Decidable.em (c=[])with hc | hc
 ·unfold Dk.write;rw [if_pos hc];exact hv
 refine ⟨by rw [Dk.write_size h i hc];have:=hv.1;omega,fun s hs=> ?_⟩
 rcases hs.write h hc hv.1 with hs | ⟨_,_,_⟩
 ·exact hv.2 s hs
 ·omega
theorem Vs.put {d:Dk} (h:d.ok) {k:Nat} {L:List (List UInt8)} (hv:Vs d k L) {c:List UInt8} (hl:c.length=512):Vs (d.write (k*512) c) k (c::L):=by
 have hc:c≠[]:=fun e=>by rw [e]at hl;cases hl
 have hk:=hv.1
 have hln:=h.len
 refine ⟨by rw [Dk.write_size h _ hc];omega,fun s hs=> ?_⟩
 rcases hs.write h hc hv.1 with hs | ⟨_,_,rfl⟩
 ·exact zq _ (hv.2 s hs)
 ·have:CC (d.write (k*512) c).now k=c:=by
   refine List.ext_getElem? fun j=> ?_
   rcases Nat.lt_or_ge j 512 with hj | hj
   ·rw [Gy _ _ _ hj,Dk.write_now h _ hc _ (.inr ⟨by omega,by omega⟩),if_pos ⟨by omega,by omega⟩,Nat.add_sub_cancel_left]
   ·rw [List.getElem?_eq_none (by unfold CC;rw [z6];omega),List.getElem?_eq_none (by omega)]
  rw [this];exact zp
theorem Vs.sync {d:Dk} (k:Nat) (hk:k<d.safe.length):Vs d.sync k [CC d.now k]:=by
 refine ⟨by simpa [Dk.sync]using hk,fun s hv=> ?_⟩
 obtain ⟨_,hv⟩:=hv
 simp only [Dk.sync,zr,List.getElem?_range hk,Option.map_some,Option.some.injEq,reduceCtorEq,zl,or_false]at hv
 rw [←hv];exact zp
theorem V3 {b:List UInt8} {k p:Nat} (h:512≤p):(CC b k)[p]? =none:=List.getElem?_eq_none (by unfold CC;rw [z6];omega)
theorem eW {b c:List UInt8} {k:Nat} (hc:c.length=512) (h:(k+1)*512≤b.length) (j:Nat):CC (FT b (k*512) c) j=if j=k then c else CC b j:=by
 refine List.ext_getElem? fun p=> ?_
 rcases Nat.lt_or_ge p 512 with hp | hp
 ·rw [Gy _ _ _ hp,Nw (by omega)]
  split
  ·have:j=k:=by omega
   subst this
   rw [if_pos rfl,Nat.add_sub_cancel_left]
  ·rename_i hn
   rw [if_neg (by rintro rfl;omega),Gy _ _ _ hp]
 ·rw [V3 hp]
  split
  ·rw [List.getElem?_eq_none (by omega)]
  ·rw [V3 hp]
def Ku (d:Dk) (l:List UInt8) (n:Nat):Prop:=l.length=d.now.length∧∀k,k<n→IY d k (CC l k)
theorem Ku.put {d:Dk} (h:d.ok) {l c:List UInt8} {n m k:Nat} (hv:Ku d l n) (hk:k<d.safe.length) (hc:IY d k c) (hm:∀j,j<m→j<n∨j=k):Ku d (FT l (k*512) c) m:=by
 have hl:=h.len
 have h1:=hv.1
 refine ⟨by rw [MD (by rw [hc.1];omega)];exact h1,fun j hj=> ?_⟩
 rw [eW hc.1 (by omega)]
 split
 ·rename_i e;rw [e];exact hc
 ·rename_i e;exact hv.2 j ((hm j hj).resolve_right e)
def Dk.to (d:Dk) (b:List UInt8):Dk:=(Dk.mk b d.safe d.wait).sync
theorem Dk.grow_le {d:Dk} {n:Nat} (h:n≤d.safe.length):d.grow n=d:=by
 obtain ⟨a,b,c⟩:=d
 simp only [Dk.grow,Dk.mk.injEq]
 simp only at h
 rw [show n-b.length=0 by omega];simp
theorem Dk.grow_max {d:Dk} {n:Nat}:d.grow (max d.safe.length n)=d.grow n:=by
 rcases Nat.le_total n d.safe.length with h | h
 ·rw [Nat.max_eq_left h,Dk.grow_le (Nat.le_refl _),Dk.grow_le h]
 ·rw [Nat.max_eq_right h]
def Dk.mid (d:Dk) (i:Nat) (c:List UInt8) (k:Nat):Dk:=
  ⟨FT (d.grow (Ba (i+c.length))).now i c,(d.grow (Ba (i+c.length))).safe,d.wait++(List.range' (i/512) (k-i/512)).map fun k=>(k,CC (FT (d.grow (Ba (i+c.length))).now i c) k)⟩
theorem Dk.mid_end {d:Dk} {i:Nat} {c:List UInt8} (hc:c≠[]):d.mid i c (Ba (i+c.length))=d.write i c:=by unfold Dk.write;rw [if_neg hc];rfl
theorem Dk.mid_ok {d:Dk} (h:d.ok) (i:Nat) {c:List UInt8} (hc:c≠[]) {k:Nat} (hk:k≤Ba (i+c.length)):(d.mid i c k).ok:=by
 have hw:=d.write_ok h i c
 rw [←Dk.mid_end hc]at hw
 refine ⟨hw.len,hw.safe,fun w hm=>hw.wait w ?_⟩
 simp only [Dk.mid,List.mem_append,List.mem_map,List.mem_range'_1]at hm ⊢
 rcases hm with hm | ⟨j,hj,e⟩
 ·exact .inl hm
 ·exact .inr ⟨j,by omega,e⟩
theorem Dk.mid_succ {d:Dk} {i:Nat} {c:List UInt8} {k:Nat} (hk:i/512≤k):d.mid i c (k+1)=⟨(d.mid i c k).now,(d.mid i c k).safe,(d.mid i c k).wait++[(k,CC (d.mid i c k).now k)]⟩:=by
 simp only [Dk.mid,Dk.mk.injEq,true_and]
 rw [show k+1-i/512=(k-i/512)+1 by omega,List.range'_1_concat,List.map_append,←z8,show i/512+(k-i/512)=k by omega]
 rfl
theorem dX (b:List UInt8) (i:Nat):FT b i []=b:=by simp [FT]
theorem dY {b c:List UInt8} {i:Nat} (x:UInt8) (h:i+c.length<b.length):(FT b i c).set (i+c.length) x=FT b i (c++[x]):=by
 refine List.ext_getElem? fun p=> ?_
 rw [Nw (by rw [z2];exact h),List.getElem?_set,MD (by omega),Nw (by omega),z2,zm]
 by_cases e:i+c.length=p
 ·subst e
  rw [if_pos rfl,if_pos h,if_pos ⟨by omega,by omega⟩,zh (by omega)];simp
 ·rw [if_neg e]
  by_cases h1:i≤p∧p<i+c.length
  ·rw [if_pos h1,if_pos ⟨by omega,by omega⟩,zi (by omega)]
  ·rw [if_neg h1,if_neg (by omega)]
theorem V7 {α:Type} {l s:List α} {i:Nat} (v:α) (hl:l.length=i) (hi:i<s.length):(l++s.drop i).set i v=(l++[v])++s.drop (i+1):=by
 subst hl
 rw [List.set_append_right _ _ (Nat.le_refl _),Nat.sub_self,List.drop_eq_getElem_cons hi,z0,z8];rfl
end Go.Bn
end

section
namespace Go.Bn
structure AS where
  name:List UInt8
  data:List UInt8
  lv:Int
noncomputable def AS.meth (e:AS):Nat:=(EV e.data e.lv).1
noncomputable def AS.area (e:AS):List UInt8:=(EV e.data e.lv).2
def FO (m:Nat) (name:List UInt8) (size area sum:Nat):List UInt8:=[76,77,66,82]++[UInt8.ofNat m,UInt8.ofNat name.length]++Ay 4 size++Ay 4 area++Ay 4 sum++name
def F3 (m:Nat) (name:List UInt8) (size area sum:Nat):List UInt8:=FO m name size area sum++Ay 4 (CM (FO m name size area sum))
theorem M6 (m:Nat) (name:List UInt8) (size area sum:Nat):(FO m name size area sum).length=18+name.length:=by
 simp only [FO,z2,Cs,ze,zk]
theorem Ii (m:Nat) (name:List UInt8) (size area sum:Nat):(F3 m name size area sum).length=22+name.length:=by
 rw [F3,z2,M6,Cs];omega
noncomputable def AS.rb (e:AS):List UInt8:=F3 e.meth e.name e.data.length e.area.length (CM e.area)++e.area
theorem AS.rb_len (e:AS):e.rb.length=22+e.name.length+e.area.length:=by rw [AS.rb,z2,Ii]
noncomputable def AX (l:List AS):List UInt8:=l.flatMap AS.rb
theorem JU (l:List AS) (e:AS):AX (l++[e])=AX l++e.rb:=by simp [AX]
structure Av where
  name:List UInt8
  at_:Nat
  frm:Nat
  area:Nat
  size:Nat
  sum:Nat
  meth:Nat
noncomputable def Cc (q:Nat×AS):Av:=⟨q.2.name,q.1,q.1+(22+q.2.name.length),q.2.area.length,q.2.data.length,CM q.2.area,q.2.meth⟩
abbrev B5:List UInt8→List UInt8→Bool:=Go.Op.bytesLess
theorem T6 (a:List UInt8):B5 a []=false:=by cases a <;> rfl
theorem LU {x y:UInt8} {a b:List UInt8}:B5 (x::a) (y::b)=true↔x.toNat<y.toNat∨x=y∧B5 a b=true:=by
 simp only [B5,Go.Op.bytesLess,Bool.or_eq_true,Bool.and_eq_true,decide_eq_true_eq,beq_iff_eq,UInt8.lt_iff_toNat_lt]
theorem Hh:∀ (a:List UInt8),B5 a a=false
 | []=>rfl
 | a::r=>by
  cases h:B5 (a::r) (a::r)with
  | false=>rfl
  | true=>
   rcases LU.1 h with h | ⟨_,h⟩
   ·omega
   ·rw [Hh r]at h;cases h
theorem LV:∀ {a b c:List UInt8},B5 a b=true→B5 b c=true→B5 a c=true
 | a,[],_,h,_=>by rw [T6]at h;cases h
 | _,b::r,[],_,h=>by rw [T6]at h;cases h
 | [],_::_,_::_,_,_=>rfl
 | x::a,y::b,z::c,h,k=>by
  rw [LU]at h k ⊢
  rcases h with h | ⟨rfl,h⟩
  ·rcases k with k | ⟨rfl,k⟩
   ·exact .inl (by omega)
   ·exact .inl h
  ·rcases k with k | ⟨rfl,k⟩
   ·exact .inl k
   ·exact .inr ⟨rfl,LV h k⟩
theorem KQ:∀ {a b:List UInt8},B5 a b=false→a≠b→B5 b a=true
 | [],[],_,h=>absurd rfl h
 | [],_::_,h,_=>by cases h
 | _::_,[],_,_=>rfl
 | x::a,y::b,h,hn=>by
  have h':¬ (x.toNat<y.toNat∨x=y∧B5 a b=true):=fun k=>by rw [LU.2 k]at h;cases h
  rw [LU]
  by_cases e:x=y
  ·subst e
   refine .inr ⟨rfl,KQ ?_ fun e=>hn (by rw [e])⟩
   cases k:B5 a b with
   | false=>rfl
   | true=>exact absurd (.inr ⟨rfl,k⟩) h'
  ·have:x.toNat≠y.toNat:=fun k=>e (UInt8.toNat_inj.1 k)
   exact .inl (by omega)
theorem NP {a b:List UInt8} (h:B5 a b=true):B5 b a=false:=by
 cases k:B5 b a with
 | false=>rfl
 | true=>have:=LV h k;rw [Hh]at this;cases this
def FK {α:Type} (nm:α→List UInt8) (l:List α):Prop:=l.Pairwise fun x y=>B5 (nm x) (nm y)=true
def Bx {α:Type} (nm:α→List UInt8) (x:α):List α→List α
  | []=>[x]
  | y::r=>if B5 (nm x) (nm y)=true then x::y::r else if nm x=nm y then x::r else y::Bx nm x r
theorem LO {α:Type} {nm:α→List UInt8} {x z:α}:∀ {l:List α},z∈Bx nm x l→z=x∨z∈l
 | [],h=> .inl (by simpa [Bx]using h)
 | y::r,h=>by
  rw [Bx]at h
  split at h
  ·rcases List.mem_cons.1 h with h | h
   ·exact .inl h
   ·exact .inr h
  ·split at h
   ·rcases List.mem_cons.1 h with h | h
    ·exact .inl h
    ·exact .inr (zq _ h)
   ·rcases List.mem_cons.1 h with h | h
    ·exact .inr (by rw [h];exact zp)
    ·rcases LO h with h | h
     ·exact .inl h
     ·exact .inr (zq _ h)
theorem TP {α:Type} {nm:α→List UInt8} {x:α}:∀ {l:List α},FK nm l→FK nm (Bx nm x l)
 | [],_=>List.pairwise_singleton _ _
 | y::r,h=>by
  obtain ⟨h1,h2⟩:=List.pairwise_cons.1 h
  rw [Bx]
  split
  ·rename_i hx
   refine List.pairwise_cons.2 ⟨fun z hz=> ?_,h⟩
   rcases List.mem_cons.1 hz with rfl | hz
   ·exact hx
   ·exact LV hx (h1 z hz)
  ·rename_i hx
   split
   ·rename_i he
    exact List.pairwise_cons.2 ⟨fun z hz=>by rw [he];exact h1 z hz,h2⟩
   ·rename_i he
    refine List.pairwise_cons.2 ⟨fun z hz=> ?_,TP h2⟩
    rcases LO hz with rfl | hz
    ·exact KQ (by simpa using hx) he
    ·exact h1 z hz
theorem NA {α:Type} {nm:α→List UInt8} {x:α}:∀ {l:List α},(Bx nm x l).length≤l.length+1
 | []=>by simp [Bx]
 | y::r=>by
  rw [Bx]
  split
  ·simp
  ·split
   ·simp
   ·have:=NA (nm:=nm) (x:=x) (l:=r);simp only [ze];omega
theorem NB {α β:Type} {nm:α→List UInt8} {nb:β→List UInt8} (f:α→β) (hf:∀x,nb (f x)=nm x) (x:α):∀ (l:List α),(Bx nm x l).map f=Bx nb (f x) (l.map f)
 | []=>rfl
 | y::r=>by
  simp only [Bx,zj,hf]
  split
  ·rfl
  ·split
   ·rfl
   ·rw [zj,NB f hf x r]
noncomputable def Fi:Nat→List AS→List (Nat×AS)→List (Nat×AS)
  | _,[],acc=>acc
  | a,e::r,acc=>Fi (a+e.rb.length) r (Bx (fun q=>q.2.name) (a,e) acc)
noncomputable def Cf (l:List AS):List (Nat×AS):=Fi 1024 l []
noncomputable def mems (l:List AS):List Av:=(Cf l).map Cc
noncomputable def Bl (l:List AS):List (List UInt8×List UInt8):=(Cf l).map fun q=>(q.2.name,q.2.data)
theorem TL:∀ (l:List AS) (a:Nat) (acc:List (Nat×AS)) (e:AS),Fi a (l++[e]) acc=Bx (fun q=>q.2.name) (a+(AX l).length,e) (Fi a l acc)
 | [],a,acc,e=>by simp [Fi,AX]
 | x::r,a,acc,e=>by
  rw [z5,Fi,TL r]
  simp only [Fi,AX,zt,z2,Nat.add_assoc]
theorem PL (l:List AS) (e:AS):Cf (l++[e])=Bx (fun q=>q.2.name) (1024+(AX l).length,e) (Cf l):=TL l 1024 [] e
theorem NV (l:List AS) (e:AS):mems (l++[e])=Bx Av.name (Cc (1024+(AX l).length,e)) (mems l):=by
 unfold mems;rw [PL];exact NB (nm:=fun q:Nat×AS=>q.2.name) Cc (fun _=>rfl) _ _
theorem O2 (l:List AS) (e:AS):Bl (l++[e])=Bx Prod.fst (e.name,e.data) (Bl l):=by
 unfold Bl;rw [PL];exact NB (nm:=fun q:Nat×AS=>q.2.name) (nb:=Prod.fst) (fun q=>(q.2.name,q.2.data)) (fun _=>rfl) _ _
end Go.Bn
end

section
namespace Go.Bn
def C9 : List UInt8 → List (List UInt8)
  | [] => [[]]
  | c :: r => if c = 47 then [] :: C9 r else match C9 r with
    | p :: ps => (c :: p) :: ps
    | [] => [[c]]
theorem MB:∀s:List UInt8,(C9 s).length=s.count 47+1
 | []=>rfl
 | c::r=>by
  have ih:=MB r
  rw [C9,List.count_cons]
  by_cases hc:c=47
  ·rw [if_pos hc,ze,ih,hc];simp
  ·rw [if_neg hc]
   have:(c==47)=false:=by simpa using hc
   rw [this]
   cases hp:C9 r with
   | nil=>rw [hp]at ih;simp at ih
   | cons p ps=>rw [hp]at ih;simpa using ih
theorem Ns:∀ {s:List UInt8},s.count 47=0→C9 s=[s]
 | [],_=>rfl
 | c::r,h=>by
  rw [List.count_cons]at h
  have hc:c≠47:=fun e=>by rw [e]at h;simp at h
  rw [C9,if_neg hc,Ns (by omega)]
theorem QB {r:List UInt8}:∀ {l:List UInt8},l.count 47=0→C9 (l++47::r)=l::C9 r
 | [],_=>by simp [C9]
 | c::l,h=>by
  rw [List.count_cons]at h
  have hc:c≠47:=fun e=>by rw [e]at h;simp at h
  rw [z5,C9,if_neg hc,QB (by omega)]
theorem TM (c:UInt8):∀ {s:List UInt8},0<s.count c→∃l r,s=l++c::r∧l.count c=0∧Lib.indexByte s c=(l.length:Nat)
 | [],h=>by simp at h
 | b::s,h=>by
  by_cases hb:b=c
  ·exact ⟨[],s,by rw [hb];rfl,rfl,by simp [Lib.indexByte,hb]⟩
  ·have hbc:(b==c)=false:=by simpa using hb
   rw [List.count_cons,hbc]at h
   obtain ⟨l,r,h1,h2,h3⟩:=TM c (s:=s) (by simpa using h)
   refine ⟨b::l,r,by rw [h1];rfl,by rw [List.count_cons,hbc,h2];rfl,?_⟩
   rw [Lib.indexByte,hbc,h3]
   have:(((l.length:Nat):Int)== -1)=false:=by
    rw [beq_eq_false_iff_ne];omega
   rw [this]
   simp
def Jl (p:List UInt8):Prop:=(∀c∈p,33≤c.toNat∧c.toNat≤126)∧p≠[]∧p≠[46]∧p≠[46,46]
def DU (s:List UInt8):Prop:=s.length≤64∧∀p∈C9 s,Jl p
instance (p:List UInt8):Decidable (Jl p):=by unfold Jl;infer_instance
instance (s:List UInt8):Decidable (DU s):=by unfold DU;infer_instance
theorem Nu:∀ {s p:List UInt8} {c:UInt8},p∈C9 s→c∈p→c∈s
 | [],p,c,h,hc=>by
  simp only [C9,zo]at h;subst h;exact hc
 | b::r,p,c,h,hc=>by
  rw [C9]at h
  split at h
  ·rcases List.mem_cons.1 h with rfl | h
   ·cases hc
   ·exact zq _ (Nu h hc)
  ·split at h
   ·rename_i q ps hq
    rcases List.mem_cons.1 h with rfl | h
    ·rcases List.mem_cons.1 hc with rfl | hc
     ·exact zp
     ·exact zq _ (Nu (by rw [hq];exact zp) hc)
    ·exact zq _ (Nu (by rw [hq];exact zq _ h) hc)
   ·simp only [zo]at h
    subst h
    rcases List.mem_cons.1 hc with rfl | hc
    ·exact zp
    ·cases hc
theorem Nt:∀ {s p:List UInt8},p∈C9 s→p.length≤s.length
 | [],p,h=>by
  simp only [C9,zo]at h;subst h;exact Nat.le_refl _
 | b::r,p,h=>by
  rw [C9]at h
  split at h
  ·rcases List.mem_cons.1 h with rfl | h
   ·simp
   ·have:=Nt h;simp only [ze];omega
  ·split at h
   ·rename_i q ps hq
    rcases List.mem_cons.1 h with rfl | h
    ·have:=Nt (s:=r) (p:=q) (by rw [hq];exact zp)
     simp only [ze];omega
    ·have:=Nt (s:=r) (p:=p) (by rw [hq];exact zq _ h)
     simp only [ze];omega
   ·simp only [zo]at h
    subst h;simp
end Go.Bn
end

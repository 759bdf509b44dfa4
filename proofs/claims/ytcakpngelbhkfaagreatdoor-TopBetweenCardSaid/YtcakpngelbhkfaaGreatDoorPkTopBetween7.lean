/- Packed texts of a claim: what its theorem uses, joined. -/
import Derived.Test.YtcakpngelbhkfaaGreatDoorPkTopBetween6
set_option maxRecDepth 100000
set_option maxHeartbeats 4000000
set_option linter.unusedVariables false
set_option linter.unusedSimpArgs false
set_option linter.unusedSectionVars false
set_option linter.defProp false
section
namespace Go.Bn
def Bo (ws:List Nat) (s:Nat):Nat:=ws.getD s 0
def H4 (ws:List Nat):List Nat:=(List.range ws.length).filter fun s=>decide (0<Bo ws s)
theorem Sj {key:Nat→Nat} {S:List Nat} {x:Nat}:∀p,p≤S.length→(S.length≤p∨key x<key (S.getD p 0))→∃q,q≤S.length∧(q=0∨key (S.getD (q-1) 0)≤key x)∧(S.length≤q∨key x<key (S.getD q 0))
 | 0,h,h2=>⟨0,h,.inl rfl,h2⟩
 | p+1,h,h2=>by
  by_cases hk:key (S.getD p 0)≤key x
  ·exact ⟨p+1,h,.inr hk,h2⟩
  ·exact Sj p (by omega) (.inr (by omega))
theorem O0 (key:Nat→Nat):∀ (n:Nat) (M:List Nat),M.length=n→M.Pairwise (· < ·)→∃l,l.Perm M∧DD key l
 | 0,M,h,_=>⟨[],by rw [List.eq_nil_of_length_eq_zero h],List.Pairwise.nil⟩
 | n+1,M,h,hM=>by
  obtain ⟨x,M',rfl⟩:∃x M',M=M'++[x]:=by
   rcases List.eq_nil_or_concat M with rfl | ⟨M',x,rfl⟩
   ·simp at h
   ·exact ⟨x,M',by simp⟩
  obtain ⟨h1,_,h3⟩:=List.pairwise_append.1 hM
  obtain ⟨S,hS,hs⟩:=O0 key n M' (by simpa using h) h1
  have hpre:Ge key S [x]:=⟨hs,by simp,fun u hu v hv _=>h3 u (hS.mem_iff.1 hu) v hv⟩
  obtain ⟨q,q1,q2,q3⟩:=Sj (key:=key) (S:=S) (x:=x) S.length (Nat.le_refl _) (.inl (Nat.le_refl _))
  obtain ⟨m1,m2⟩:=Pk hpre q1 q2 q3
  exact ⟨_,m1.trans (hS.append_right _),m2⟩
theorem O6 (ws:List Nat):(H4 ws).Pairwise (· < ·):=List.Pairwise.sublist List.filter_sublist List.pairwise_lt_range
noncomputable def BI (ws:List Nat):List Nat:=Classical.choose (O0 (Bo ws) _ (H4 ws) rfl (O6 ws))
theorem Jy (ws:List Nat):(BI ws).Perm (H4 ws)∧DD (Bo ws) (BI ws):=Classical.choose_spec (O0 (Bo ws) _ (H4 ws) rfl (O6 ws))
theorem fY {ws l:List Nat} (h:l.Perm (H4 ws)) (h2:DD (Bo ws) l):l=BI ws:=Vc h2 (Jy ws).2 (h.trans (Jy ws).1.symm)
theorem Hk {ws:List Nat} {s:Nat}:s∈BI ws↔s<ws.length∧0<Bo ws s:=by
 rw [(Jy ws).1.mem_iff];simp [H4]
theorem Wd (ws:List Nat):(BI ws).length≤ws.length:=by
 rw [(Jy ws).1.length_eq]
 have:=List.length_filter_le (fun s=>decide (0<Bo ws s)) (List.range ws.length)
 rwa [List.length_range]at this
theorem fZ (ws:List Nat):(BI ws).Nodup:=by
 refine (Jy ws).2.imp fun {a b} h e=> ?_
 subst e
 unfold Rk at h;omega
noncomputable def Eg (ws:List Nat):List Nat:=(BI ws).map (Bo ws)
theorem MO (ws:List Nat):(Eg ws).length=(BI ws).length:=by simp [Eg]
theorem MN (ws:List Nat):(Eg ws).Pairwise (· ≤ ·):=by
 unfold Eg
 rw [List.pairwise_map]
 exact (Jy ws).2.imp fun h=>h.le
def Cv (L:List Nat) (i:Nat):Nat:=L.countP fun a=>decide (i<a)
noncomputable def C8 (ws:List Nat):List Nat:=match (BI ws).length with
  | 0=>[]
  | 1=>[1]
  | n=>Eo (Eg ws) 15 (2*n-2)
noncomputable def HJ (ws:List Nat) (s:Nat):Nat:=Cv (C8 ws) ((BI ws).idxOf s)
noncomputable def DY (ws:List Nat):List Nat:=(List.range ws.length).map (HJ ws)
theorem Hg (ws:List Nat):(DY ws).length=ws.length:=by simp [DY]
theorem KO {ws:List Nat} (h:2≤(BI ws).length):C8 ws=Eo (Eg ws) 15 (2*(BI ws).length-2):=by
 unfold C8
 match hn:(BI ws).length,h with
 | n+2,_=>rfl
theorem N1 {ws:List Nat} (h:2≤(BI ws).length) (h2:ws.length≤16000):2*(BI ws).length-2≤(Bs (Eg ws) 15).length:=by
 have:=Wd ws
 have hl:=MO ws
 rw [dz _ (by omega) (by omega)];omega
theorem Tt {ws:List Nat} (h2:ws.length≤16000):∀a∈C8 ws,a≤(BI ws).length:=by
 intro a ha
 rcases Nat.lt_or_ge (BI ws).length 2 with h | h
 ·unfold C8 at ha
  match hn:(BI ws).length,h with
  | 0,_=>rw [hn]at ha;simp at ha
  | 1,_=>rw [hn]at ha;simp at ha;omega
 ·rw [KO h]at ha
  have:=Tw (MN ws) 15 _ (N1 h h2) a ha
  rwa [MO]at this
theorem am {ws:List Nat} (h2:ws.length≤16000):(C8 ws).Pairwise (· ≥ ·):=by
 rcases Nat.lt_or_ge (BI ws).length 2 with h | h
 ·unfold C8
  match hn:(BI ws).length,h with
  | 0,_=>simp
  | 1,_=>simp
 ·rw [KO h];exact Tv (MN ws) 15 _ (N1 h h2)
theorem Tu {ws:List Nat}:(C8 ws).length≤15:=by
 rcases Nat.lt_or_ge (BI ws).length 2 with h | h
 ·unfold C8
  match hn:(BI ws).length,h with
  | 0,_=>simp
  | 1,_=>simp
 ·rw [KO h,LS];exact Nat.le_refl _
theorem ab (ws:List Nat) (s:Nat):HJ ws s≤15:=by
 have:=List.countP_le_length (p:=fun a=>decide ((BI ws).idxOf s<a)) (l:=C8 ws)
 have:=Tu (ws:=ws)
 unfold HJ Cv;omega
theorem Tm {ws:List Nat} {s:Nat} (h2:ws.length≤16000) (h:s∉BI ws):HJ ws s=0:=by
 unfold HJ Cv
 rw [List.countP_eq_zero]
 intro a ha
 have:=Tt h2 a ha
 have h3:(BI ws).idxOf s=(BI ws).length:=List.idxOf_eq_length h
 simp only [decide_eq_true_eq];omega
def IT (L:List Nat) (n len:Nat):Nat:=((List.range n).map fun i=>2^(len-Cv L i)).sum
theorem Jx (f:Nat→Nat) (n:Nat):((List.range (n+1)).map f).sum=((List.range n).map f).sum+f n:=by
 rw [List.range_succ,List.map_append,List.sum_append];simp
theorem WU (f g:Nat→Nat) (n:Nat):((List.range n).map fun i=>f i+g i).sum=((List.range n).map f).sum+((List.range n).map g).sum:=by
 induction n with
 | zero=>rfl
 | succ n ih=>rw [Jx,Jx,Jx,ih];omega
theorem WW {f g:Nat→Nat} {n:Nat} (h:∀i,i<n→f i=g i):((List.range n).map f).sum=((List.range n).map g).sum:=by
 congr 1
 exact List.map_congr_left fun i hi=>h i (List.mem_range.1 hi)
theorem WV (a c:Nat):∀n,((List.range n).map fun i=>if i<a then c else 0).sum=min a n*c
 | 0=>by simp
 | n+1=>by
  rw [Jx,WV a c n]
  by_cases h:n<a
  ·rw [if_pos h,Nat.min_eq_right (by omega),Nat.min_eq_right (by omega),Nat.add_mul,Nat.one_mul]
  ·rw [if_neg h,Nat.min_eq_left (by omega),Nat.min_eq_left (by omega)];rfl
theorem T7 (L:List Nat) (i:Nat):Cv L i≤L.length:=List.countP_le_length
theorem az (a:Nat) (L:List Nat) (i:Nat):Cv (a::L) i=Cv L i+if i<a then 1 else 0:=by
 unfold Cv
 rw [List.countP_cons];simp
theorem Qq (c:Nat):∀n,((List.range n).map fun _=>c).sum=n*c
 | 0=>by simp
 | n+1=>by rw [Jx (fun _=>c),Qq c n,Nat.add_mul,Nat.one_mul]
theorem W8 {n:Nat}:∀ (L:List Nat),L.Pairwise (· ≥ ·)→(∀a∈L,a≤n)→Ko L+IT L n L.length=n*2^L.length
 | [],_,_=>by
  simp only [Ko,IT,Cv,zk,List.countP_nil,Nat.sub_zero,Nat.pow_zero]
  rw [Qq];omega
 | a::L,hd,hb=>by
  obtain ⟨h1,h2⟩:=List.pairwise_cons.1 hd
  have ih:=W8 L h2 fun x hx=>hb x (by simp [hx])
  have ha:=hb a (by simp)
  have hz:∀i,¬i<a→Cv L i=0:=fun i hi=>by
   unfold Cv
   rw [List.countP_eq_zero]
   intro x hx
   have:=h1 x hx
   simp only [decide_eq_true_eq];omega
  have e:IT (a::L) n (a::L).length+min a n*2^L.length=IT L n L.length+n*2^L.length:=by
   unfold IT
   rw [←WV a (2^L.length) n,←WU]
   have e2:n*2^L.length=((List.range n).map fun _=>2^L.length).sum:=(Qq _ _).symm
   rw [e2,←WU]
   refine WW fun i _=> ?_
   have hle:=T7 L i
   rw [az,ze]
   by_cases hi:i<a
   ·rw [if_pos hi,if_pos hi,show L.length+1 - (Cv L i+1)=L.length-Cv L i by omega]
   ·rw [if_neg hi,if_neg hi,hz i hi,Nat.add_zero,Nat.sub_zero,Nat.sub_zero,Nat.pow_succ];omega
  rw [Nat.min_eq_left ha]at e
  rw [Ko,ze,Nat.pow_succ,←Nat.mul_assoc]
  rw [ze]at e
  omega
theorem Wu {ws:List Nat} (h:2≤(BI ws).length) (h2:ws.length≤16000):IT (C8 ws) (BI ws).length 15=32768:=by
 have hw:=W8 (C8 ws) (am h2) (Tt h2)
 have hl:(C8 ws).length=15:=by rw [KO h,LS]
 have hv:=W7 (MN ws) 15 _ (N1 h h2)
 rw [←KO h]at hv
 rw [hl]at hw
 have e:(2*(BI ws).length-2)*2^15=2*((BI ws).length*2^15)-2*2^15:=by rw [Nat.sub_mul,Nat.mul_assoc]
 have:2*2^15≤(BI ws).length*2^15:=Nat.mul_le_mul_right _ h
 omega
theorem fU (f:Nat→Nat) {n i:Nat} (hi:i<n):f i≤((List.range n).map f).sum:=by
 induction n with
 | zero=>omega
 | succ n ih=>
  rw [Jx]
  rcases Nat.lt_or_ge i n with h | h
  ·have:=ih h;omega
  ·obtain rfl:i=n:=by omega
   omega
theorem WX (f:Nat→Nat) {n i j:Nat} (hij:i<j) (hj:j<n):f i+f j≤((List.range n).map f).sum:=by
 induction n with
 | zero=>omega
 | succ n ih=>
  rw [Jx]
  rcases Nat.lt_or_ge j n with h | h
  ·have:=ih h;omega
  ·obtain rfl:j=n:=by omega
   have:=fU f hij;omega
theorem T8 {ws:List Nat} (h2:ws.length≤16000) {i:Nat} (hi:i < (BI ws).length):1≤Cv (C8 ws) i:=by
 rcases Nat.lt_or_ge (BI ws).length 2 with h | h
 ·unfold C8
  match hn:(BI ws).length,h with
  | 0,_=>omega
  | 1,_=>
   obtain rfl:i=0:=by omega
   simp [Cv]
 ·have hu:=Wu h h2
  refine Classical.byContradiction fun hno=> ?_
  have h0:Cv (C8 ws) i=0:=by omega
  obtain ⟨j,hj,hij⟩:∃j,j < (BI ws).length∧j≠i:=by
   rcases Nat.eq_zero_or_pos i with h3 | h3
   ·exact ⟨1,by omega,by omega⟩
   ·exact ⟨0,by omega,by omega⟩
  have hp:0<2^(15-Cv (C8 ws) j):=Nat.pow_pos (by omega)
  have hs:2^(15-Cv (C8 ws) i)+2^(15-Cv (C8 ws) j)≤IT (C8 ws) (BI ws).length 15:=by
   unfold IT
   rcases Nat.lt_or_ge i j with h4 | h4
   ·exact WX (fun i=>2^(15-Cv (C8 ws) i)) h4 hj
   ·have:=WX (fun i=>2^(15-Cv (C8 ws) i)) (show j<i by omega) hi
    omega
  rw [h0]at hs
  omega
theorem Tn {ws:List Nat} (h2:ws.length≤16000) {s:Nat} (h:s∈BI ws):1≤HJ ws s:=T8 h2 (List.idxOf_lt_length_of_mem h)
theorem WY {ws:List Nat} (f:Nat→Nat) (hf:∀s,s∉BI ws→f s=0):((List.range ws.length).map f).sum=((List.range (BI ws).length).map fun i=>f ((BI ws).getD i 0)).sum:=by
 have e1:((List.range ws.length).map f).sum=((H4 ws).map f).sum:=by
  have key:∀l:List Nat,(∀s∈l,s<ws.length)→(l.map f).sum=((l.filter fun s=>decide (0<Bo ws s)).map f).sum:=by
   intro l
   induction l with
   | nil=>intro _;rfl
   | cons x l ih=>
    intro hl
    have ih:=ih fun s hs=>hl s (by simp [hs])
    by_cases hx:0<Bo ws x
    ·rw [List.filter_cons_of_pos (by simpa using hx),zj,zj,List.sum_cons,List.sum_cons,ih]
    ·rw [List.filter_cons_of_neg (by simpa using hx),zj,List.sum_cons,ih,hf x (fun h=>hx (Hk.1 h).2),Nat.zero_add]
  exact key _ fun s hs=>List.mem_range.1 hs
 rw [e1,←((Jy ws).1.map f).sum_nat]
 congr 1
 refine List.ext_getElem (by simp) fun i h1 h2=> ?_
 have hi:i < (BI ws).length:=by simpa using h1
 rw [List.getElem_map,List.getElem_map,List.getElem_range,ER hi]
theorem M7 {ws:List Nat} {i:Nat} (hi:i < (BI ws).length):(BI ws).idxOf ((BI ws).getD i 0)=i:=by
 rw [ER hi]
 exact (fZ ws).idxOf_getElem _ hi
theorem aL (f:Nat→Nat) (n:Nat):ES ((List.range n).map f)=((List.range n).map fun s=>Ft (f s)).sum:=by
 unfold ES;rw [List.map_map];rfl
theorem Tq {ws:List Nat} (h:2≤(BI ws).length) (h2:ws.length≤16000):ES (DY ws)=32768:=by
 rw [←Wu h h2]
 unfold DY IT
 rw [aL,WY (fun s=>Ft (HJ ws s)) fun s hs=>by rw [Tm h2 hs];rfl]
 refine WW fun i hi=> ?_
 have hp:=T8 h2 hi
 show Ft (Cv (C8 ws) ((BI ws).idxOf ((BI ws).getD i 0)))=_
 rw [M7 hi]
 unfold Ft
 rw [if_neg (by omega)]
theorem Ts {ws:List Nat} (h:(BI ws).length=1) (h2:ws.length≤16000):(DY ws).sum=1:=by
 unfold DY
 rw [WY (HJ ws) fun s hs=>Tm h2 hs,h]
 show HJ ws ((BI ws).getD 0 0)+0=1
 unfold HJ
 rw [M7 (by omega)]
 unfold C8
 rw [h];rfl
theorem Tr (ws:List Nat):∀x∈DY ws,x≤15:=by
 intro x hx
 obtain ⟨s,_,rfl⟩:=List.mem_map.1 hx
 exact ab ws s
theorem Tp {ws:List Nat} {s:Nat} (h:s<ws.length):(DY ws).getD s 0=HJ ws s:=by simp [DY,List.getD,h]
end Go.Bn
end

section
namespace Go.Bn
open Go Proofs
theorem aB {c:Nat} {A:Option Addr} {fn:Value} {h0:AA}:AG Tryz.prog 324 [.slice A 0 c,nV 0,nV 0,fn] h0 fun _ h'=>h0=h':=by
 refine Gx Tryz.func324 rfl fun _=>AO ?_
 refine BD (fun _=>0) (fun (_:Unit)=>[(2,nV 0),(8,nV 1)]) (fun _ hp=>h0=hp) () (Cu rfl rfl) rfl ?_
 rintro ⟨⟩ hp rfl
 refine AO ?_
 refine AK rfl (fun h=> ?_) (fun h=> ?_)
 ·exact absurd h (by omega)
 ·refine AB ?_
  rfl
theorem fK {c:Nat} {A:Option Addr} {fn:Value} {h0:AA}:AG Tryz.prog 317 [.slice A 0 c,nV 0,fn] h0 fun _ h'=>h0=h':=by
 refine Bg Tryz.func317 rfl fun _=>By ?_
 refine BD (fun _=>0) (fun (_:Unit)=>[(0,.slice A 0 c),(1,nV 0),(2,fn),(6,nV 20),(7,nV 0),(8,nV 20)]) (fun _ hp=>h0=hp) () (CL rfl rfl rfl rfl rfl rfl) rfl ?_
 rintro ⟨⟩ hp rfl
 refine AO ?_
 refine AK rfl (fun h=> ?_) (fun h=> ?_)
 ·exact absurd h (by omega)
 ·refine AO ?_
  refine xk (aB) rfl ?_
  rintro _ _ rfl
  refine AB ?_
  refine BD (fun _=>0) (fun (_:Unit)=>[(1,nV 0),(6,nV 20)]) (fun _ hp'=>h0=hp') () (Cu rfl rfl) rfl ?_
  rintro ⟨⟩ hp rfl
  refine AO ?_
  refine AK rfl (fun h=> ?_) (fun h=> ?_)
  ·exact absurd h (by omega)
  ·refine AB ?_
   rfl
theorem er {c:Nat} {A:Option Addr} {fn:Value} {h0:AA}:AG Tryz.prog 293 [.slice A 0 c,fn] h0 fun _ h'=>h0=h':=by
 refine Ac Tryz.func293 rfl fun _=>AH ?_
 refine xk (fK) rfl ?_
 rintro _ _ rfl
 refine AB ?_
 rfl
theorem eu {B k:Nat} {v:Value} {l0:List Nat} {caps:Array Value} {key:Nat→Nat} {good:Nat→Prop} {F:List AE} {h0:AA} (st0:St B h0 h0 (Bn.row 3 1 v (l0.map nV)::F)) (hcmp:Hr B h0 F k caps key good)
  (hlt:l0.Pairwise (· < ·)) (hg:∀x∈l0,good x) (hn:l0.length≤1099511627776):
  AG Tryz.prog 293 [v,.func (.func k) #[] caps] h0 fun _ h'=>∃l,l.Perm l0∧DD key l∧St B h0 h' (Bn.row 3 1 v (l.map nV)::F):=by
 rcases Nat.eq_zero_or_pos l0.length with h | h
 ·obtain rfl:=List.eq_nil_of_length_eq_zero h
  obtain ⟨A,n,c,rfl,hl,_⟩:=st0.row 0 rfl
  obtain rfl:n=0:=by simpa using hl.symm
  refine AG.mono er ?_
  rintro _ h' rfl
  exact ⟨[],List.Perm.refl _,List.Pairwise.nil,st0⟩
 ·obtain ⟨g,n,c,rfl,hl,_⟩:=st0.row0 0 rfl (by rw [z3];exact h)
  rw [z3]at hl
  exact ew st0 hcmp hlt hg (by omega)
theorem aD {B hn n c p x y:Nat} {A:Option Addr} {ws:List Nat} {hb h0:AA} {r:AE} {F:List AE} (st:St B hb h0 (r::pt p 61 [.slice A n c]::F)) (hr:Rd h0 A (ws.map nV)) (hl:ws.length=n) (hx:x<n) (hy:y<n):
  AG Tryz.prog 294 [nV x,nV y,.pointer (some ⟨p,0,none⟩)] h0 fun v h'=>v= .int .i64 (Ie (Bo ws x) (Bo ws y))∧h0=h':=by
 obtain ⟨g,o,rfl,hc⟩:=hr.at_ (by rw [z3];omega)
 have hcx:=hc x (nV (Bo ws x)) (by unfold Bo;simp [List.getD,hl,hx])
 have hcy:=hc y (nV (Bo ws y)) (by unfold Bo;simp [List.getD,hl,hy])
 refine Bg Tryz.func294 rfl fun _=>AL ?_
 refine xc st 1 0 ?_
 refine AB ?_
 refine xl (hcx) rfl ?_
 refine xc st 1 0 ?_
 refine AB ?_
 refine xl (hcy) rfl ?_
 refine xk (Yx) rfl ?_
 rintro _ _ ⟨rfl,rfl⟩
 refine AF ?_
 exact ⟨rfl,rfl⟩
def H5 (ws:List Nat) (i:Nat):List Nat:=(List.range i).filter fun s=>decide (0<Bo ws s)
theorem Zg (ws:List Nat) (i:Nat):H5 ws (i+1)=H5 ws i++if 0<Bo ws i then [i]else []:=by
 unfold H5
 rw [List.range_succ,List.filter_append]
 by_cases h:0<Bo ws i <;> simp [h]
theorem Sx (ws:List Nat) (i:Nat):(H5 ws i).length≤i:=by
 have:=List.length_filter_le (fun s=>decide (0<Bo ws s)) (List.range i)
 rwa [List.length_range]at this
theorem aE {n c:Nat} {A:Option Addr} {ws:List Nat} {h0:AA} (hr:Rd h0 A (ws.map nV)) (hl:ws.length=n) (hn:n≤1048576):
  AG Tryz.prog 263 [.slice A n c] h0 fun v h'=>St h0.size h0 h' [row 3 1 v ((BI ws).map nV)]:=by
 refine BE Tryz.func263 rfl fun _=> ?_
 have st:=St.start h0
 refine AB ?_
 refine xv (Bv rfl rfl) ?_
 rintro _ hp ⟨p,rfl,hnew⟩
 replace st:=st.new hnew
 refine Aj ?_
 refine xc st 0 0 ?_
 refine AJ ?_
 replace st:=st.nilrow 3 1
 refine BD (fun s=>n-s.1) (fun s=>[(1,.pointer (some ⟨p,0,none⟩)),(3,s.2),(6,.slice A n c),(7,nV n),(8,nV s.1)])
  (fun (s:Nat×Value) hp=>St h0.size h0 hp [row 3 1 s.2 ((H5 ws s.1).map nV),pt p 61 [.slice A n c]]∧s.1≤n)
  (0,_) (CP rfl rfl rfl rfl rfl) ⟨st,by simp only;omega⟩ ?_
 clear st
 rintro ⟨i,v⟩ hp ⟨st,hi⟩
 simp only at st hi ⊢
 refine AH ?_
 refine AK rfl (fun h=> ?_) (fun h=> ?_)
 ·have hlt:i<ws.length:=by omega
  obtain ⟨g,o,rfl,hc⟩:=hr.at_ (by rw [z3];omega)
  have hci:=Bz (a:=⟨g,o+i,none⟩) st.low (hc i (nV (Bo ws i)) (by unfold Bo;simp [List.getD,hlt]))
  have hfs:=Zg ws i
  have hfl:=Sx ws i
  refine AO ?_
  refine xl (hci) rfl (AP ?_)
  refine AK rfl (fun h=> ?_) (fun h=> ?_)
  ·refine AF ?_
   refine xv (Ep rfl rfl rfl) ?_
   rintro _ hp ⟨A,rfl,hx,hrd⟩
   have st:=st.ext hx
   refine BN (BY st 0 rfl (hrd) (rfl) (by simp [Value.one,AN]) (by simp;omega) rfl rfl rfl rfl rfl rfl rfl) rfl rfl rfl fun v hp st=> ?_
   simp only [z0,z1]at st
   rw [if_pos (by omega)]at hfs
   have e:(H5 ws i).map nV++[nV i]=(H5 ws (i+1)).map nV:=by rw [hfs];simp
   rw [e]at st
   refine AO ?_
   exact Ad (i+1,v) (CP rfl rfl rfl rfl rfl) ⟨st,by simp only;omega⟩ (by simp only;omega)
  ·refine AL ?_
   rw [if_neg (by omega),List.append_nil]at hfs
   rw [←hfs]at st
   exact Ad (i+1,v) (CP rfl rfl rfl rfl rfl) ⟨st,by simp only;omega⟩ (by simp only;omega)
 ·obtain rfl:i=n:=by omega
  have hfe:H5 ws i=H4 ws:=by unfold H5 H4;rw [hl]
  rw [hfe]at st
  have hfl:=Sx ws i
  rw [hfe]at hfl
  refine AH ?_
  refine xk (eu (k:=294) (key:=Bo ws) (good:=fun s=>s<i) st.here ⟨by kernel_rfl,fun r h' s x y hx hy=>aD (hn:=0) s (hr.ext (st.low.trans s.low)) hl hx hy⟩ (O6 ws) (fun x hx=>by have:=(List.mem_filter.1 hx).1;rw [List.mem_range]at this;omega) (by omega)) rfl ?_
  rintro _ hp2 ⟨l,hl1,hl2,st2⟩
  replace st:=st.trans st2
  rw [fY hl1 hl2]at st
  refine AO ?_
  exact st.keep 1
def eC (e:PE):List Value:=[nV e.1,.bool (FB e)]
theorem Lb (e:PE):∀u∈eC e,Value.one u=true:=by intro u hu;simp only [eC,List.mem_cons,zl,or_false]at hu;rcases hu with rfl | rfl <;> rfl
theorem NW {I P:List PE} {i k:Nat} (hi:i<I.length) (h:∀hk:k<P.length,I[i].1≤P[k].1):(I.drop i).merge (P.drop k) Fj=I[i]::(I.drop (i+1)).merge (P.drop k) Fj:=by
 rw [List.drop_eq_getElem_cons hi]
 rcases Nat.lt_or_ge k P.length with hk | hk
 ·rw [List.drop_eq_getElem_cons hk,List.cons_merge_cons_pos _ _ _ (JS.2 (h hk))]
 ·rw [List.drop_of_length_le hk,List.merge_right,List.merge_right]
theorem NX {I P:List PE} {i k:Nat} (hk:k<P.length) (h:∀hi:i<I.length,¬I[i].1≤P[k].1):(I.drop i).merge (P.drop k) Fj=P[k]::(I.drop i).merge (P.drop (k+1)) Fj:=by
 rw [List.drop_eq_getElem_cons hk]
 rcases Nat.lt_or_ge i I.length with hi | hi
 ·rw [List.drop_eq_getElem_cons hi,List.cons_merge_cons_neg _ _ _ (fun hh=>h hi (JS.1 hh))]
 ·rw [List.drop_of_length_le hi,List.nil_merge,List.nil_merge]
theorem Uz:∀ (k:Nat) (l:List PE) (h:k < (Ci l).length) (h1:2*k+1<l.length),(Ci l)[k]=((l[2*k]'(by omega)).1+l[2*k+1].1,(l[2*k]'(by omega)).2++l[2*k+1].2)
 | _,[],h,_=>by simp [Ci]at h
 | _,[_],h,_=>by simp [Ci]at h
 | 0,x::y::r,h,_=>by simp [Ci]
 | k+1,x::y::r,h,h1=>by
  have ih:=Uz k r (by simp [Ci]at h;exact h) (by simp at h1;omega)
  simp only [Ci,List.getElem_cons_succ,ih,show 2*(k+1)=2*k+1+1 by omega]
theorem bd {n c m d q e:Nat} {A B C:Option Addr} {ws sy:List Nat} {prev:List PE} {h0:AA} (hr:Rd h0 A (ws.map nV)) (hl:ws.length=n) (hs:Rd h0 B (sy.map nV)) (hm:sy.length=m) (hp:Rd h0 C (prev.flatMap eC)) (hq:prev.length=q)
  (hsy:∀s∈sy,s<n) (hmm:m≤1048576) (hqm:q≤2097152) (hpw:∀e∈prev,e.1≤1152921504606846976) (hp1:∀e∈prev,1≤e.2.length):
  AG Tryz.prog 298 [.slice A n c,.slice B m d,.slice C q e] h0 fun v h'=>St h0.size h0 h' [row 365 2 v (((FP (sy.map (Bo ws))).merge (Ci prev) Fj).flatMap eC)]:=by
 have hIl:(FP (sy.map (Bo ws))).length=m:=by rw [JP,z3,hm]
 have hPl:=L8 prev
 rw [hq]at hPl
 have hIi:∀i (hi:i<m),(FP (sy.map (Bo ws)))[i]'(by omega)=(Bo ws (sy[i]'(by omega)),[i]):=fun i hi=>by
  rw [LQ (by rw [z3];omega),List.getElem_map]
 have hPi:=fun k h h1=>Uz k prev h h1
 obtain ⟨I,hI⟩:∃I,FP (sy.map (Bo ws))=I:=⟨_,rfl⟩
 obtain ⟨P,hP⟩:∃P,Ci prev=P:=⟨_,rfl⟩
 simp only [hI,hP]at hIl hPl hIi hPi ⊢
 refine Bg Tryz.func298 rfl fun _=>Cp ?_
 have st:=(St.start h0).nilrow 365 2
 refine BD (fun s=>m+q-s.1-s.2.1) (fun s=>[(0,.slice A n c),(1,.slice B m d),(2,.slice C q e),(7,s.2.2.1),(8,nV s.1),(9,nV (2*s.2.1))])
  (fun (s:Nat×Nat×Value×List PE) hp=>St h0.size h0 hp [row 365 2 s.2.2.1 (s.2.2.2.flatMap eC)]∧s.1≤m∧s.2.1≤q/2∧s.2.2.2.length=s.1+s.2.1∧s.2.2.2++(I.drop s.1).merge (P.drop s.2.1) Fj=I.merge P Fj)
  (0,0,_,[]) (CL rfl rfl rfl rfl rfl rfl) ⟨st,by simp only;omega,by simp only;omega,rfl,by simp⟩ ?_
 clear st
 rintro ⟨i,k,v,out⟩ hp2 ⟨st,hi,hk,hout,hmg⟩
 simp only at st hi hk hout hmg ⊢
 refine AP ?_
 refine Am 15 rfl (fun h=> ?_) (fun h=> ?_)
 ·have h15:=h
  refine HQ ?_
  have hx:=st.low
  refine AL ?_
  refine Am 31 rfl (fun h=> ?_) (fun h=> ?_)
  ·have h31:=h
   obtain ⟨gB,oB,rfl,hcB⟩:=hs.at_ (by rw [z3];omega)
   have him:i<sy.length:=by omega
   have hsn:=hsy _ (List.getElem_mem him)
   obtain ⟨gA,oA,rfl,hcA⟩:=hr.at_ (by rw [z3];omega)
   have hIe:=hIi i (by omega)
   have hlB:=fun {hp:AA} (hx:AV h0 hp)=>Bz (a:=⟨gB,oB+i,none⟩) hx (hcB i (nV sy[i]) (by simp [him]))
   have hlA:=fun {hp:AA} (hx:AV h0 hp)=>Bz (a:=⟨gA,oA+sy[i],none⟩) hx (hcA sy[i] (nV (Bo ws sy[i])) (by unfold Bo;simp [List.getD,hl,hsn]))
   obtain ⟨s,hse⟩:∃s,sy[i]=s:=⟨_,rfl⟩
   rw [hse]at hsn hlA hlB hIe
   obtain ⟨w,hwe⟩:∃w,Bo ws s=w:=⟨_,rfl⟩
   rw [hwe]at hlA hIe
   refine AF ?_
   refine Am 34 rfl (fun h=> ?_) (fun h=> ?_)
   ·refine XN ?_
    refine xl (hlB st.low) rfl (AC ?_)
    refine xl (hlA st.low) rfl ?_
    refine xa (AZ (ps:=[(0,nV w),(1,.bool true)]) (cs:= #[nV w,.bool true]) rfl rfl) ?_
    refine xv (D4 (us:=[nV w,.bool true]) rfl rfl rfl rfl (by kernel_rfl)) ?_
    rintro _ hp ⟨A9,rfl,hx9,hrd⟩
    replace st:=st.ext hx9
    refine BN (BY st 0 rfl (hrd) (rfl) (Lb (w,[i])) (by rw [EO _ 2 (fun _=>rfl)];simp;omega) rfl rfl rfl rfl rfl rfl rfl) rfl rfl rfl fun v hp st=> ?_
    simp only [z0,z1]at st
    have e2:out.flatMap eC++[nV w,.bool true]=(out++[(w,[i])]).flatMap eC:=by rw [List.flatMap_append];rfl
    rw [e2]at st
    refine Aj ?_
    refine Ad (i+1,k,v,out++[(w,[i])]) (CL rfl rfl rfl rfl rfl rfl) ⟨st,by simp only;omega,hk,by simp only [z2,ze,zk];omega,?_⟩ (by simp only;omega)
    rw [←hmg,NW (I:=I) (P:=P) (i:=i) (k:=k) (by omega) (fun hk9=>by omega),hIe]
    simp
   ·obtain ⟨gC,oC,rfl,hcC⟩:=Rd.flat eC 2 hp (fun _=>rfl) (by omega) (by omega)
    have hk1:2*k<prev.length:=by omega
    have hk2:2*k+1<prev.length:=by omega
    have hl1:=fun {hp:AA} (hx:AV h0 hp)=>Bz (a:=⟨gC,oC+2*k*2+0,none⟩) hx (hcC (2*k) hk1 0 (nV prev[2*k].1) rfl)
    have hl2:=fun {hp:AA} (hx:AV h0 hp)=>Bz (a:=⟨gC,oC+(2*k+1)*2+0,none⟩) hx (hcC (2*k+1) hk2 0 (nV prev[2*k+1].1) rfl)
    have hw1:=hpw _ (List.getElem_mem hk1)
    have hw2:=hpw _ (List.getElem_mem hk2)
    have hPe:=hPi k (by omega) hk2
    refine AJ ?_
    refine xl (hlB st.low) rfl (AC ?_)
    refine xl (hlA st.low) rfl (AB ?_)
    refine xa (Bp (i:=2*k) rfl rfl rfl (by omega)) (AC ?_)
    refine xl (hl1 st.low) rfl (AF ?_)
    refine xa (Bp (i:=2*k+1) rfl rfl rfl (by omega)) (AC ?_)
    refine xl (hl2 st.low) rfl (AH ?_)
    refine AK rfl (fun h=> ?_) (fun h=> ?_)
    ·refine AO ?_
     refine xl (hlB st.low) rfl (AC ?_)
     refine xl (hlA st.low) rfl ?_
     refine xa (AZ (ps:=[(0,nV w),(1,.bool true)]) (cs:= #[nV w,.bool true]) rfl rfl) ?_
     refine xv (D4 (us:=[nV w,.bool true]) rfl rfl rfl rfl (by kernel_rfl)) ?_
     rintro _ hp ⟨A9,rfl,hx9,hrd⟩
     replace st:=st.ext hx9
     refine BN (BY st 0 rfl (hrd) (rfl) (Lb (w,[i])) (by rw [EO _ 2 (fun _=>rfl)];simp;omega) rfl rfl rfl rfl rfl rfl rfl) rfl rfl rfl fun v hp st=> ?_
     simp only [z0,z1]at st
     have e2:out.flatMap eC++[nV w,.bool true]=(out++[(w,[i])]).flatMap eC:=by rw [List.flatMap_append];rfl
     rw [e2]at st
     refine Aj ?_
     refine Ad (i+1,k,v,out++[(w,[i])]) (CL rfl rfl rfl rfl rfl rfl) ⟨st,by simp only;omega,hk,by simp only [z2,ze,zk];omega,?_⟩ (by simp only;omega)
     rw [←hmg,NW (I:=I) (P:=P) (i:=i) (k:=k) (by omega) (fun hk9=>by rw [hIe,hPe];simp only;omega),hIe]
     simp
    ·refine AB ?_
     have hpair:2*k+1<q:=by omega
     have hkP:k<P.length:=by omega
     have hge:=hp1 _ (List.getElem_mem hk1)
     have hge2:=hp1 _ (List.getElem_mem hk2)
     have hItem:FB (P[k]'hkP)=false:=by
      rw [hPe]
      unfold FB
      rw [beq_eq_false_iff_ne]
      simp only [z2]
      omega
     refine AJ ?_
     refine xa (Bp (i:=2*k) rfl rfl rfl (by omega)) (AC ?_)
     refine xl (hl1 st.low) rfl (AF ?_)
     refine xa (Bp (i:=2*k+1) rfl rfl rfl (by omega)) (AC ?_)
     refine xl (hl2 st.low) rfl (AC ?_)
     refine xa (AZ (ps:=[(0,nV (prev[2*k].1+prev[2*k+1].1))]) (cs:= #[nV (prev[2*k].1+prev[2*k+1].1),.bool false]) rfl rfl) ?_
     refine BW (D4 (us:=[nV (prev[2*k].1+prev[2*k+1].1),.bool false]) rfl rfl rfl rfl (by kernel_rfl)) rfl rfl rfl (fun _ _ ⟨_,_,e,_⟩=>e) ?_
     rintro _ hp ⟨A9,rfl,hx9,hrd⟩
     replace st:=st.ext hx9
     refine BN (BY st 0 rfl (hrd) (rfl) (by intro u hu;simp only [List.mem_cons,zl,or_false]at hu;rcases hu with rfl | rfl <;> rfl) (by rw [EO _ 2 (fun _=>rfl)];simp;omega) rfl rfl rfl rfl rfl rfl rfl) rfl rfl rfl fun v hp st=> ?_
     simp only [z0,z1]at st
     have e2:out.flatMap eC++[nV (prev[2*k].1+prev[2*k+1].1),.bool false]=(out++[P[k]'hkP]).flatMap eC:=by
      rw [List.flatMap_append]
      simp only [zt,List.flatMap_nil,List.append_nil,eC,hItem]
      rw [hPe]
     rw [e2]at st
     refine AP ?_
     refine Ad (i,k+1,v,out++[P[k]'hkP]) (CL rfl rfl rfl rfl rfl rfl) ⟨st,hi,by simp only;omega,by simp only [z2,ze,zk];omega,?_⟩ (by simp only;omega)
     simp only
     rw [←hmg,NX (I:=I) (i:=i) hkP (fun hi9=>by rw [hIe,hPe];simp only;omega)]
     simp
  ·refine RH ?_
   have hpair:2*k+1<q:=by omega
   obtain ⟨gC,oC,rfl,hcC⟩:=Rd.flat eC 2 hp (fun _=>rfl) (by omega) (by omega)
   have hk1:2*k<prev.length:=by omega
   have hk2:2*k+1<prev.length:=by omega
   have hl1:=fun {hp:AA} (hx:AV h0 hp)=>Bz (a:=⟨gC,oC+2*k*2+0,none⟩) hx (hcC (2*k) hk1 0 (nV prev[2*k].1) rfl)
   have hl2:=fun {hp:AA} (hx:AV h0 hp)=>Bz (a:=⟨gC,oC+(2*k+1)*2+0,none⟩) hx (hcC (2*k+1) hk2 0 (nV prev[2*k+1].1) rfl)
   have hw1:=hpw _ (List.getElem_mem hk1)
   have hw2:=hpw _ (List.getElem_mem hk2)
   have hPe:=hPi k (by omega) hk2
   have hkP:k<P.length:=by omega
   have hge:=hp1 _ (List.getElem_mem hk1)
   have hge2:=hp1 _ (List.getElem_mem hk2)
   have hItem:FB (P[k]'hkP)=false:=by
    rw [hPe]
    unfold FB
    rw [beq_eq_false_iff_ne]
    simp only [z2]
    omega
   refine AJ ?_
   refine xa (Bp (i:=2*k) rfl rfl rfl (by omega)) (AC ?_)
   refine xl (hl1 st.low) rfl (AF ?_)
   refine xa (Bp (i:=2*k+1) rfl rfl rfl (by omega)) (AC ?_)
   refine xl (hl2 st.low) rfl (AC ?_)
   refine xa (AZ (ps:=[(0,nV (prev[2*k].1+prev[2*k+1].1))]) (cs:= #[nV (prev[2*k].1+prev[2*k+1].1),.bool false]) rfl rfl) ?_
   refine BW (D4 (us:=[nV (prev[2*k].1+prev[2*k+1].1),.bool false]) rfl rfl rfl rfl (by kernel_rfl)) rfl rfl rfl (fun _ _ ⟨_,_,e,_⟩=>e) ?_
   rintro _ hp ⟨A9,rfl,hx9,hrd⟩
   replace st:=st.ext hx9
   refine BN (BY st 0 rfl (hrd) (rfl) (by intro u hu;simp only [List.mem_cons,zl,or_false]at hu;rcases hu with rfl | rfl <;> rfl) (by rw [EO _ 2 (fun _=>rfl)];simp;omega) rfl rfl rfl rfl rfl rfl rfl) rfl rfl rfl fun v hp st=> ?_
   simp only [z0,z1]at st
   have e2:out.flatMap eC++[nV (prev[2*k].1+prev[2*k+1].1),.bool false]=(out++[P[k]'hkP]).flatMap eC:=by
    rw [List.flatMap_append]
    simp only [zt,List.flatMap_nil,List.append_nil,eC,hItem]
    rw [hPe]
   rw [e2]at st
   refine AP ?_
   refine Ad (i,k+1,v,out++[P[k]'hkP]) (CL rfl rfl rfl rfl rfl rfl) ⟨st,hi,by simp only;omega,by simp only [z2,ze,zk];omega,?_⟩ (by simp only;omega)
   simp only
   rw [←hmg,NX (I:=I) (i:=i) hkP (fun hi9=>by omega)]
   simp
 ·have h15:=h
  refine AO ?_
  refine AK rfl (fun h=> ?_) (fun h=> ?_)
  ·have h1:=h
   refine B3 ?_
   have hx:=st.low
   refine AL ?_
   refine Am 31 rfl (fun h=> ?_) (fun h=> ?_)
   ·have h31:=h
    obtain ⟨gB,oB,rfl,hcB⟩:=hs.at_ (by rw [z3];omega)
    have him:i<sy.length:=by omega
    have hsn:=hsy _ (List.getElem_mem him)
    obtain ⟨gA,oA,rfl,hcA⟩:=hr.at_ (by rw [z3];omega)
    have hIe:=hIi i (by omega)
    have hlB:=fun {hp:AA} (hx:AV h0 hp)=>Bz (a:=⟨gB,oB+i,none⟩) hx (hcB i (nV sy[i]) (by simp [him]))
    have hlA:=fun {hp:AA} (hx:AV h0 hp)=>Bz (a:=⟨gA,oA+sy[i],none⟩) hx (hcA sy[i] (nV (Bo ws sy[i])) (by unfold Bo;simp [List.getD,hl,hsn]))
    obtain ⟨s,hse⟩:∃s,sy[i]=s:=⟨_,rfl⟩
    rw [hse]at hsn hlA hlB hIe
    obtain ⟨w,hwe⟩:∃w,Bo ws s=w:=⟨_,rfl⟩
    rw [hwe]at hlA hIe
    refine AF ?_
    refine Am 34 rfl (fun h=> ?_) (fun h=> ?_)
    ·refine XN ?_
     refine xl (hlB st.low) rfl (AC ?_)
     refine xl (hlA st.low) rfl ?_
     refine xa (AZ (ps:=[(0,nV w),(1,.bool true)]) (cs:= #[nV w,.bool true]) rfl rfl) ?_
     refine xv (D4 (us:=[nV w,.bool true]) rfl rfl rfl rfl (by kernel_rfl)) ?_
     rintro _ hp ⟨A9,rfl,hx9,hrd⟩
     replace st:=st.ext hx9
     refine BN (BY st 0 rfl (hrd) (rfl) (Lb (w,[i])) (by rw [EO _ 2 (fun _=>rfl)];simp;omega) rfl rfl rfl rfl rfl rfl rfl) rfl rfl rfl fun v hp st=> ?_
     simp only [z0,z1]at st
     have e2:out.flatMap eC++[nV w,.bool true]=(out++[(w,[i])]).flatMap eC:=by rw [List.flatMap_append];rfl
     rw [e2]at st
     refine Aj ?_
     refine Ad (i+1,k,v,out++[(w,[i])]) (CL rfl rfl rfl rfl rfl rfl) ⟨st,by simp only;omega,hk,by simp only [z2,ze,zk];omega,?_⟩ (by simp only;omega)
     rw [←hmg,NW (I:=I) (P:=P) (i:=i) (k:=k) (by omega) (fun hk9=>by omega),hIe]
     simp
    ·obtain ⟨gC,oC,rfl,hcC⟩:=Rd.flat eC 2 hp (fun _=>rfl) (by omega) (by omega)
     have hk1:2*k<prev.length:=by omega
     have hk2:2*k+1<prev.length:=by omega
     have hl1:=fun {hp:AA} (hx:AV h0 hp)=>Bz (a:=⟨gC,oC+2*k*2+0,none⟩) hx (hcC (2*k) hk1 0 (nV prev[2*k].1) rfl)
     have hl2:=fun {hp:AA} (hx:AV h0 hp)=>Bz (a:=⟨gC,oC+(2*k+1)*2+0,none⟩) hx (hcC (2*k+1) hk2 0 (nV prev[2*k+1].1) rfl)
     have hw1:=hpw _ (List.getElem_mem hk1)
     have hw2:=hpw _ (List.getElem_mem hk2)
     have hPe:=hPi k (by omega) hk2
     refine AJ ?_
     refine xl (hlB st.low) rfl (AC ?_)
     refine xl (hlA st.low) rfl (AB ?_)
     refine xa (Bp (i:=2*k) rfl rfl rfl (by omega)) (AC ?_)
     refine xl (hl1 st.low) rfl (AF ?_)
     refine xa (Bp (i:=2*k+1) rfl rfl rfl (by omega)) (AC ?_)
     refine xl (hl2 st.low) rfl (AH ?_)
     refine AK rfl (fun h=> ?_) (fun h=> ?_)
     ·refine AO ?_
      refine xl (hlB st.low) rfl (AC ?_)
      refine xl (hlA st.low) rfl ?_
      refine xa (AZ (ps:=[(0,nV w),(1,.bool true)]) (cs:= #[nV w,.bool true]) rfl rfl) ?_
      refine xv (D4 (us:=[nV w,.bool true]) rfl rfl rfl rfl (by kernel_rfl)) ?_
      rintro _ hp ⟨A9,rfl,hx9,hrd⟩
      replace st:=st.ext hx9
      refine BN (BY st 0 rfl (hrd) (rfl) (Lb (w,[i])) (by rw [EO _ 2 (fun _=>rfl)];simp;omega) rfl rfl rfl rfl rfl rfl rfl) rfl rfl rfl fun v hp st=> ?_
      simp only [z0,z1]at st
      have e2:out.flatMap eC++[nV w,.bool true]=(out++[(w,[i])]).flatMap eC:=by rw [List.flatMap_append];rfl
      rw [e2]at st
      refine Aj ?_
      refine Ad (i+1,k,v,out++[(w,[i])]) (CL rfl rfl rfl rfl rfl rfl) ⟨st,by simp only;omega,hk,by simp only [z2,ze,zk];omega,?_⟩ (by simp only;omega)
      rw [←hmg,NW (I:=I) (P:=P) (i:=i) (k:=k) (by omega) (fun hk9=>by rw [hIe,hPe];simp only;omega),hIe]
      simp
     ·refine AB ?_
      have hpair:2*k+1<q:=by omega
      have hkP:k<P.length:=by omega
      have hge:=hp1 _ (List.getElem_mem hk1)
      have hge2:=hp1 _ (List.getElem_mem hk2)
      have hItem:FB (P[k]'hkP)=false:=by
       rw [hPe]
       unfold FB
       rw [beq_eq_false_iff_ne]
       simp only [z2]
       omega
      refine AJ ?_
      refine xa (Bp (i:=2*k) rfl rfl rfl (by omega)) (AC ?_)
      refine xl (hl1 st.low) rfl (AF ?_)
      refine xa (Bp (i:=2*k+1) rfl rfl rfl (by omega)) (AC ?_)
      refine xl (hl2 st.low) rfl (AC ?_)
      refine xa (AZ (ps:=[(0,nV (prev[2*k].1+prev[2*k+1].1))]) (cs:= #[nV (prev[2*k].1+prev[2*k+1].1),.bool false]) rfl rfl) ?_
      refine BW (D4 (us:=[nV (prev[2*k].1+prev[2*k+1].1),.bool false]) rfl rfl rfl rfl (by kernel_rfl)) rfl rfl rfl (fun _ _ ⟨_,_,e,_⟩=>e) ?_
      rintro _ hp ⟨A9,rfl,hx9,hrd⟩
      replace st:=st.ext hx9
      refine BN (BY st 0 rfl (hrd) (rfl) (by intro u hu;simp only [List.mem_cons,zl,or_false]at hu;rcases hu with rfl | rfl <;> rfl) (by rw [EO _ 2 (fun _=>rfl)];simp;omega) rfl rfl rfl rfl rfl rfl rfl) rfl rfl rfl fun v hp st=> ?_
      simp only [z0,z1]at st
      have e2:out.flatMap eC++[nV (prev[2*k].1+prev[2*k+1].1),.bool false]=(out++[P[k]'hkP]).flatMap eC:=by
       rw [List.flatMap_append]
       simp only [zt,List.flatMap_nil,List.append_nil,eC,hItem]
       rw [hPe]
      rw [e2]at st
      refine AP ?_
      refine Ad (i,k+1,v,out++[P[k]'hkP]) (CL rfl rfl rfl rfl rfl rfl) ⟨st,hi,by simp only;omega,by simp only [z2,ze,zk];omega,?_⟩ (by simp only;omega)
      simp only
      rw [←hmg,NX (I:=I) (i:=i) hkP (fun hi9=>by rw [hIe,hPe];simp only;omega)]
      simp
   ·refine RH ?_
    have hpair:2*k+1<q:=by omega
    obtain ⟨gC,oC,rfl,hcC⟩:=Rd.flat eC 2 hp (fun _=>rfl) (by omega) (by omega)
    have hk1:2*k<prev.length:=by omega
    have hk2:2*k+1<prev.length:=by omega
    have hl1:=fun {hp:AA} (hx:AV h0 hp)=>Bz (a:=⟨gC,oC+2*k*2+0,none⟩) hx (hcC (2*k) hk1 0 (nV prev[2*k].1) rfl)
    have hl2:=fun {hp:AA} (hx:AV h0 hp)=>Bz (a:=⟨gC,oC+(2*k+1)*2+0,none⟩) hx (hcC (2*k+1) hk2 0 (nV prev[2*k+1].1) rfl)
    have hw1:=hpw _ (List.getElem_mem hk1)
    have hw2:=hpw _ (List.getElem_mem hk2)
    have hPe:=hPi k (by omega) hk2
    have hkP:k<P.length:=by omega
    have hge:=hp1 _ (List.getElem_mem hk1)
    have hge2:=hp1 _ (List.getElem_mem hk2)
    have hItem:FB (P[k]'hkP)=false:=by
     rw [hPe]
     unfold FB
     rw [beq_eq_false_iff_ne]
     simp only [z2]
     omega
    refine AJ ?_
    refine xa (Bp (i:=2*k) rfl rfl rfl (by omega)) (AC ?_)
    refine xl (hl1 st.low) rfl (AF ?_)
    refine xa (Bp (i:=2*k+1) rfl rfl rfl (by omega)) (AC ?_)
    refine xl (hl2 st.low) rfl (AC ?_)
    refine xa (AZ (ps:=[(0,nV (prev[2*k].1+prev[2*k+1].1))]) (cs:= #[nV (prev[2*k].1+prev[2*k+1].1),.bool false]) rfl rfl) ?_
    refine BW (D4 (us:=[nV (prev[2*k].1+prev[2*k+1].1),.bool false]) rfl rfl rfl rfl (by kernel_rfl)) rfl rfl rfl (fun _ _ ⟨_,_,e,_⟩=>e) ?_
    rintro _ hp ⟨A9,rfl,hx9,hrd⟩
    replace st:=st.ext hx9
    refine BN (BY st 0 rfl (hrd) (rfl) (by intro u hu;simp only [List.mem_cons,zl,or_false]at hu;rcases hu with rfl | rfl <;> rfl) (by rw [EO _ 2 (fun _=>rfl)];simp;omega) rfl rfl rfl rfl rfl rfl rfl) rfl rfl rfl fun v hp st=> ?_
    simp only [z0,z1]at st
    have e2:out.flatMap eC++[nV (prev[2*k].1+prev[2*k+1].1),.bool false]=(out++[P[k]'hkP]).flatMap eC:=by
     rw [List.flatMap_append]
     simp only [zt,List.flatMap_nil,List.append_nil,eC,hItem]
     rw [hPe]
    rw [e2]at st
    refine AP ?_
    refine Ad (i,k+1,v,out++[P[k]'hkP]) (CL rfl rfl rfl rfl rfl rfl) ⟨st,hi,by simp only;omega,by simp only [z2,ze,zk];omega,?_⟩ (by simp only;omega)
    simp only
    rw [←hmg,NX (I:=I) (i:=i) hkP (fun hi9=>by omega)]
    simp
  ·refine AO ?_
   rw [List.drop_of_length_le (by omega),List.drop_of_length_le (by omega),List.merge_right,List.append_nil]at hmg
   rw [←hmg]
   exact st
end Go.Bn
end

section
namespace Go.Bn
open Go Proofs
def Fp (e sz:Nat):List (Value×List Value)→AE
  | []=>emp
  | x::L=>CD (Bn.row e sz x.1 x.2) (Fp e sz L)
theorem Ve {e sz:Nat} {x:Value×List Value} {h:AA}:∀ {L:List (Value×List Value)} {S:Nat→Prop},(Fp e sz L).P h S→x∈L→∃A n c,x.1= .slice A n c∧x.2.length=n*sz∧n≤c∧c≤maxLen∧Rd h A x.2
 | y::L,S,hp,hx=>by
  obtain ⟨S1,S2,h1,h2,_⟩:=hp
  rcases List.mem_cons.1 hx with rfl | hx
  ·exact Hv.rd h1
  ·exact Ve h2 hx
theorem St.rowsAt {B e sz:Nat} {h0 hp:AA} {rs:List AE} (s:St B h0 hp rs) (j:Nat) {L:List (Value×List Value)} {x:Value×List Value} (hj:rs[j]? =some (Fp e sz L)) (hx:x∈L):
  ∃A n c,x.1= .slice A n c∧x.2.length=n*sz∧n≤c∧c≤maxLen∧Rd hp A x.2:=by
 obtain ⟨S,h,_⟩:=s.at_ hj
 exact Ve h hx
theorem d7 {n c m d:Nat} {A B:Option Addr} {h0:AA}:AG Tryz.prog 265 [.slice A n c,.slice B m d] h0 fun v h'=>∃p q,v= .func (.func 297) #[] #[.pointer (some ⟨p,0,none⟩),.pointer (some ⟨q,0,none⟩)]∧St h0.size h0 h' [pt q 61 [.slice B m d],pt p 61 [.slice A n c]]:=by
 refine Ac Tryz.func265 rfl fun _=> ?_
 have st:=St.start h0
 refine AB ?_
 refine xv (Bv rfl rfl) ?_
 rintro _ hp ⟨p,rfl,hnew⟩
 replace st:=st.new hnew
 refine xv (Bv rfl rfl) ?_
 rintro _ hp ⟨q,rfl,hnew⟩
 replace st:=st.new hnew
 refine AP ?_
 exact ⟨_,_,rfl,st⟩
theorem d6 {B y p q n c m d:Nat} {A A2:Option Addr} {ws sy:List Nat} {F:List AE} {h0:AA} (JR:List Value→List AE)
  (st0:St B h0 h0 (pt q 61 [.slice A2 m d]::pt p 61 [.slice A n c]::Bn.row 3 1 (.slice A2 m d) (sy.map nV)::(JR []++F)))
  (hr:∀h',BC B h0 h'→Rd h' A (ws.map nV)) (hl:ws.length=n) (hsy:∀s∈sy,s<n) (hm:sy.length≤65536) (hw:∀s∈sy,Bo ws s≤1073741824)
  (hround:∀ (s:List Value) (v:Value) (F':List AE) (h:AA),BC B h0 h→s.length≤14→Value.one v=true→St B h h (JR s++F')→FJ Tryz.prog y [v] h fun u h'=>u= .bool true∧St B h h' (JR (s++[v])++F')):
  AG Tryz.prog 297 [.func (.yield y) #[] #[],.pointer (some ⟨p,0,none⟩),.pointer (some ⟨q,0,none⟩)] h0 fun _ h'=>∃ (vs:List Value) (L:List (Value×List Value)),vs.length=15∧(∀j,j<15→(vs.getD j (.slice none 0 0),(Bs (sy.map (Bo ws)) (j+1)).flatMap eC)∈L)∧
   St B h0 h' (JR vs++(Fp 365 2 L::Bn.row 3 1 (.slice A2 m d) (sy.map nV)::F)):=by
 have hml:sy.length=m:=by
  obtain ⟨_,_,_,he,hl2,_⟩:=st0.row 2 rfl
  cases he;simpa using hl2
 have hbd:∀j,j≤15→∀e∈Bs (sy.map (Bo ws)) j,e.1≤1073741824*2^j:=by
  intro j
  induction j with
  | zero=>intro _ e he;simp [Bs]at he
  | succ j ih=>
   intro hj e he
   rw [Bs,List.mem_merge]at he
   have hp:2^(j+1)=2*2^j:=by rw [Nat.pow_succ,Nat.mul_comm]
   have hp1:0<2^j:=Nat.pow_pos (by omega)
   rcases he with he | he
   ·simp only [FP,List.mem_map,List.mem_range]at he
    obtain ⟨i,hi,rfl⟩:=he
    have hi':i<sy.length:=by simpa using hi
    have:=hw _ (List.getElem_mem hi')
    have e:(sy.map (Bo ws)).getD i 0=Bo ws sy[i]:=by simp [List.getD,hi']
    simp only [e]
    have:1073741824*1≤1073741824*2^(j+1):=Nat.mul_le_mul_left _ (by omega)
    omega
   ·obtain ⟨u,v,hu,hv,rfl⟩:=L9 he
    have h1:=ih (by omega) u hu
    have h2:=ih (by omega) v hv
    simp only
    rw [hp,Nat.mul_left_comm];omega
 refine Bg Tryz.func297 rfl fun _=>Aj ?_
 refine BD (fun s=>15-s.1) (fun s=>[(0,.func (.yield y) #[] #[]),(1,.pointer (some ⟨p,0,none⟩)),(2,.pointer (some ⟨q,0,none⟩)),(4,s.2.1),(5,nV s.1)])
  (fun (s:Nat×Value×List Value×List (Value×List Value)) hp=>s.1≤15∧s.2.2.1.length=s.1∧(∀j,j<s.1→(s.2.2.1.getD j (.slice none 0 0),(Bs (sy.map (Bo ws)) (j+1)).flatMap eC)∈s.2.2.2)∧((s.1=0∧s.2.1= .slice none 0 0)∨(s.2.1,(Bs (sy.map (Bo ws)) s.1).flatMap eC)∈s.2.2.2)∧
   St B h0 hp (Fp 365 2 s.2.2.2::pt q 61 [.slice A2 m d]::pt p 61 [.slice A n c]::Bn.row 3 1 (.slice A2 m d) (sy.map nV)::(JR s.2.2.1++F)))
  (0,.slice none 0 0,[],[]) (CP rfl rfl rfl rfl rfl) ⟨by simp only;omega,rfl,fun j h=>by simp only at h;omega,.inl ⟨rfl,rfl⟩,St.emp.2 st0⟩ ?_
 rintro ⟨j,v,vs,L⟩ hp ⟨hj,hvs,hL,hv,st⟩
 simp only at hj hvs hL hv st ⊢
 refine AH ?_
 refine AK rfl (fun h=> ?_) (fun h=> ?_)
 ·obtain ⟨A5,n5,c5,rfl,hn5,hr5⟩:∃A5 n5 c5,v= .slice A5 n5 c5∧(Bs (sy.map (Bo ws)) j).length=n5∧Rd hp A5 ((Bs (sy.map (Bo ws)) j).flatMap eC):=by
   rcases hv with ⟨rfl,rfl⟩ | hv
   ·exact ⟨_,_,_,rfl,rfl,Rd.nil _ _⟩
   ·obtain ⟨A5,n5,c5,e1,e2,_,_,e3⟩:=st.rowsAt 0 rfl hv
    rw [EO _ 2 (fun _=>rfl)]at e2
    exact ⟨A5,n5,c5,e1,by omega,e3⟩
  have hrs:=(st.rdS 3 rfl).2
  have hb5:=QV (sy.map (Bo ws)) j
  rw [z3]at hb5
  have hp15:2^j≤32768:=zw (Nat.pow_le_pow_right (n:=2) (by omega) (show j≤15 by omega)) (by decide)
  refine AH ?_
  refine xc st 2 0 ?_
  refine xc st 1 0 ?_
  refine AC ?_
  refine xk (bd (hr hp st.low) hl hrs hml hr5 hn5 hsy (by omega) (by omega) (fun e he=>by have h1:=hbd j hj e he;have h2:1073741824*2^j≤1073741824*32768:=Nat.mul_le_mul_left _ hp15;omega) (N0 j)) rfl ?_
  rintro v2 hp2 st2
  obtain ⟨A6,n6,c6,rfl,_⟩:=st2.row 0 rfl
  replace st:=St.star.2 (st.join st2)
  have st3:=st.perm (zb [Fp 365 2 ((.slice A6 n6 c6,(Bs (sy.map (Bo ws)) (j+1)).flatMap eC)::L),pt q 61 [.slice A2 m d],pt p 61 [.slice A n c],Bn.row 3 1 (.slice A2 m d) (sy.map nV)] (JR vs) F)
  refine AL ?_
  refine Ia (Io rfl (hround vs _ _ _ st3.low (by omega) rfl st3.here) rfl) rfl rfl rfl ?_
  rintro _ hp3 ⟨rfl,st4⟩
  have st5:=(st3.trans st4).perm (zb (JR (vs++[Value.slice A6 n6 c6])) [Fp 365 2 ((.slice A6 n6 c6,(Bs (sy.map (Bo ws)) (j+1)).flatMap eC)::L),pt q 61 [.slice A2 m d],pt p 61 [.slice A n c],Bn.row 3 1 (.slice A2 m d) (sy.map nV)] F)
  refine Aj ?_
  refine Ad (j+1,Value.slice A6 n6 c6,vs++[Value.slice A6 n6 c6],(Value.slice A6 n6 c6,(Bs (sy.map (Bo ws)) (j+1)).flatMap eC)::L) (CP rfl rfl rfl rfl rfl) ⟨by simp only;omega,by simp [hvs],fun i hi=> ?_,.inr (by simp),st5⟩ (by simp only;omega)
  simp only at hi ⊢
  rcases Nat.lt_or_ge i j with h1 | h1
  ·rw [show (vs++[Value.slice A6 n6 c6]).getD i (.slice none 0 0)=vs.getD i (.slice none 0 0) by rw [List.getD,List.getD,zi (by omega)]]
   exact zq _ (hL i h1)
  ·obtain rfl:i=j:=by omega
   rw [show (vs++[Value.slice A6 n6 c6]).getD i (.slice none 0 0)=Value.slice A6 n6 c6 by rw [List.getD,zh (by omega),hvs,Nat.sub_self];rfl]
   exact zp
 ·refine AB ?_
  obtain rfl:j=15:=by omega
  refine ⟨vs,L,hvs,hL,?_⟩
  have h1:=st.perm (zb [Fp 365 2 L,pt q 61 [.slice A2 m d],pt p 61 [.slice A n c],Bn.row 3 1 (.slice A2 m d) (sy.map nV)] (JR vs) F)
  have h2:(JR vs++(([Fp 365 2 L,pt q 61 [.slice A2 m d],pt p 61 [.slice A n c],Bn.row 3 1 (.slice A2 m d) (sy.map nV)]:List AE)++F)).Perm (pt q 61 [.slice A2 m d]::pt p 61 [.slice A n c]::(JR vs++(Fp 365 2 L::Bn.row 3 1 (.slice A2 m d) (sy.map nV)::F))):=by
   refine (zb _ _ _).trans ?_
   refine (List.Perm.append_right _ (?_:List.Perm _ ([pt q 61 [.slice A2 m d],pt p 61 [.slice A n c]]++[Fp 365 2 L,Bn.row 3 1 (.slice A2 m d) (sy.map nV)]))).trans ?_
   ·exact (List.perm_middle (l₁:=[pt q 61 [.slice A2 m d],pt p 61 [.slice A n c]])).symm
   ·rw [z8]
    exact ((zb [Fp 365 2 L,Bn.row 3 1 (.slice A2 m d) (sy.map nV)] (JR vs) F).cons _).cons _
  exact (h1.perm h2).tail.tail
theorem Xq {B gf:Nat} {lb:List Value} {α:Type} {Q:α→Prop} {out:α→List Value} {F:List AE} {F2:α→List AE} {h0:AA} (st0:St B h0 h0 F) (hc:EB Tryz.prog gf=true)
  (hiter:∀ (JR:List Value→List AE) (G:List AE) (y:Nat) (h:AA),BC B h0 h→St B h h (F++(JR []++G))→
   (∀ (s:List Value) (v:Value) (F':List AE) (h':AA),BC B h h'→s.length≤14→Value.one v=true→St B h' h' (JR s++F')→FJ Tryz.prog y [v] h' fun u h''=>u= .bool true∧St B h' h'' (JR (s++[v])++F'))→
   AG Tryz.prog gf (.func (.yield y) #[] #[]::lb) h fun _ h'=>∃x,Q x∧St B h h' (JR (out x)++(F2 x++G))):
  AG Tryz.prog 296 [.slice none 0 0,.func (.func gf) #[] lb.toArray] h0 fun v h'=>∃x,Q x∧St B h0 h' (Bn.row 357 1 v (out x)::F2 x):=by
 refine Ac Tryz.func296 rfl fun _=>AB ?_
 refine xv (Bv rfl rfl) ?_
 rintro _ hp ⟨p,rfl,hnew⟩
 have st:=(st0.new hnew).nilrow 357 1
 refine AP ?_
 refine GL st rfl rfl hc fun fn tmps L y d hp1 hL hok hx1 st1=> ?_
 obtain ⟨JR,hJR⟩:∃JR:List Value→List AE,JR=fun s=>[BG y (L .ready none),Cb fun v=>CD (Bn.row 357 1 v s) (pt p 355 [v])]:=⟨_,rfl⟩
 have st2:St B h0 hp1 (F++(JR []++[BG d (.deferred (some []))])):=by
  have s1:=st1.perm ((List.perm_append_comm (l₁:=[BG y (L .ready none),BG d (.deferred (some [])),Bn.row 357 1 (.slice none 0 0) [],pt p 355 [.slice none 0 0]]) (l₂:=F)).trans (List.Perm.refl _))
  have s2:=s1.perm (List.perm_append_comm (l₁:=F))
  have s3:St B h0 hp1 (Bn.row 357 1 (.slice none 0 0) []::pt p 355 [.slice none 0 0]::BG y (L .ready none)::BG d (.deferred (some []))::F):=
   s2.perm (zb [BG y (L .ready none),BG d (.deferred (some []))] [Bn.row 357 1 (.slice none 0 0) [],pt p 355 [.slice none 0 0]] F)
  have s4:St B h0 hp1 ((Cb fun v=>CD (Bn.row 357 1 v []) (pt p 355 [v]))::BG y (L .ready none)::BG d (.deferred (some []))::F):=St.ex.2 ⟨Value.slice none 0 0,St.star.2 s3⟩
  have s5:=s4.perm ((List.Perm.swap _ _ _).trans (List.perm_append_comm (l₁:=[BG y (L .ready none),Cb fun v=>CD (Bn.row 357 1 v []) (pt p 355 [v]),BG d (.deferred (some []))]) (l₂:=F)))
  rw [hJR];exact s5
 refine AG.mono (hiter JR [BG d (.deferred (some []))] y hp1 st2.low st2.here ?_) ?_
 ·intro s u0 F' h hlow hs14 hv1 st3
  subst hL
  subst hJR
  simp only [z5,z4]at st3
  obtain ⟨v9,st3⟩:=St.ex.1 (st3.perm (List.Perm.swap _ _ _))
  have st:=(St.star.1 st3)
  refine GZ (st.obj_at 2 rfl) hok rfl rfl fun w0 hw0=> ?_
  simp only [E2]
  refine AF ?_
  refine GJ (st.obj_at 2 rfl) ?_
  replace st:=st.loop 2 .busy none rfl
  simp only [z0,z1]at st
  refine AB ?_
  refine xc st 1 0 ?_
  refine AC ?_
  refine xv (Ep rfl hv1 rfl) ?_
  rintro _ hp ⟨A,rfl,hx,hrd⟩
  replace st:=st.ext hx
  refine BN (BY st 0 rfl (hrd) (rfl) (by intro u hu;rw [zo.1 hu];exact hv1) (by simp;omega) rfl rfl rfl rfl rfl rfl rfl) rfl rfl rfl fun v hp st=> ?_
  simp only [z0,z1]at st
  obtain ⟨A6,n6,c6,rfl,_⟩:=st.row 0 rfl
  refine xj st 1 fun hp st=> ?_
  simp only [z0,z1]at st
  refine AB ?_
  refine FL (st.obj_at 2 rfl) ⟨rfl,?_⟩
  replace st:=st.loop 2 .ready none rfl
  simp only [z0,z1]at st
  have s6:=(St.ex.2 ⟨_,St.star.2 st⟩:St B h _ ((Cb fun v=>CD (Bn.row 357 1 v (s++[u0])) (pt p 355 [v]))::_))
  exact s6.perm (List.Perm.swap _ _ _)
 rintro _ h' ⟨x,hQ,st3⟩
 subst hJR
 simp only [z5,z4]at st3
 refine .inl ⟨_,st2.trans st3,fun hp3 st4=> ?_⟩
 obtain ⟨v9,st4⟩:=St.ex.1 (st4.perm (List.Perm.swap _ _ _))
 have st:=St.star.1 st4
 refine AF ?_
 refine xc st 1 0 ?_
 refine AB ?_
 have hperm:(Bn.row 357 1 v9 (out x)::pt p 355 [v9]::BG y (L .exhausted none)::(F2 x++[BG d (.deferred (some []))])).Perm (BG d (.deferred (some []))::BG y (L .exhausted none)::pt p 355 [v9]::Bn.row 357 1 v9 (out x)::F2 x):=by
  refine (List.perm_append_comm (l₁:=Bn.row 357 1 v9 (out x)::pt p 355 [v9]::BG y (L .exhausted none)::F2 x) (l₂:=[BG d (.deferred (some []))])).trans (List.Perm.cons _ ?_)
  exact (zb [Bn.row 357 1 v9 (out x),pt p 355 [v9]] [BG y (L .exhausted none)] (F2 x)).trans (List.Perm.cons _ (List.Perm.swap _ _ _))
 replace st:=st.perm hperm
 refine Gg (d:=d) (.cons (.tmp rfl) .nil) ?_ (st.obj_at 0 rfl)
 replace st:=st.put 0 (.deferred none) rfl
 exact ⟨x,hQ,st.tail.tail.tail⟩
theorem Yv {B gf:Nat} {lb:List Value} {α:Type} {Q:α→Prop} {out:α→List Value} {F:List AE} {F2:α→List AE} {h0:AA} (st0:St B h0 h0 F) (hc:EB Tryz.prog gf=true)
  (hiter:∀ (JR:List Value→List AE) (G:List AE) (y:Nat) (h:AA),BC B h0 h→St B h h (F++(JR []++G))→
   (∀ (s:List Value) (v:Value) (F':List AE) (h':AA),BC B h h'→s.length≤14→Value.one v=true→St B h' h' (JR s++F')→FJ Tryz.prog y [v] h' fun u h''=>u= .bool true∧St B h' h'' (JR (s++[v])++F'))→
   AG Tryz.prog gf (.func (.yield y) #[] #[]::lb) h fun _ h'=>∃x,Q x∧St B h h' (JR (out x)++(F2 x++G))):
  AG Tryz.prog 264 [.func (.func gf) #[] lb.toArray] h0 fun v h'=>∃x,Q x∧St B h0 h' (Bn.row 357 1 v (out x)::F2 x):=by
 refine BE Tryz.func264 rfl fun _=>AO ?_
 refine xk (Xq st0 hc hiter) rfl ?_
 rintro v hp h
 refine AF ?_
 exact h
theorem X8 {n c:Nat} {A:Option Addr} {h0:AA}:AG Tryz.prog 266 [.slice A n c] h0 fun v h'=>∃p,v= .func (.func 299) #[] #[.pointer (some ⟨p,0,none⟩)]∧St h0.size h0 h' [pt p 355 [.slice A n c]]:=by
 refine BE Tryz.func266 rfl fun _=> ?_
 have st:=St.start h0
 refine AB ?_
 refine xv (Bv rfl rfl) ?_
 rintro _ hp ⟨p,rfl,hnew⟩
 replace st:=st.new hnew
 refine AP ?_
 exact ⟨_,rfl,st⟩
theorem X7 {B y p m c:Nat} {A:Option Addr} {vs:List Value} {F:List AE} {h0:AA} (JR:Nat→List AE) (hm:m≤1048576)
  (st0:St B h0 h0 (pt p 355 [.slice A m c]::Bn.row 357 1 (.slice A m c) vs::(JR 0++F)))
  (hround:∀ (j:Nat) (F':List AE) (h:AA),BC B h0 h→j<m→St B h h (JR j++F')→FJ Tryz.prog y [nV (m-1-j),vs.getD (m-1-j) (.slice none 0 0)] h fun u h'=>u= .bool true∧St B h h' (JR (j+1)++F')):
  AG Tryz.prog 299 [.func (.yield y) #[] #[],.pointer (some ⟨p,0,none⟩)] h0 fun _ h'=>St B h0 h' (JR m++F):=by
 have hvl:vs.length=m:=by
  obtain ⟨_,_,_,he,hl2,_⟩:=st0.row 1 rfl
  cases he;simpa using hl2
 refine Ac Tryz.func299 rfl fun _=>AB ?_
 refine xc st0 0 0 ?_
 refine AH ?_
 refine BD (fun j=>m-j) (fun j=>[(0,.func (.yield y) #[] #[]),(1,.pointer (some ⟨p,0,none⟩)),(3,.int .i64 ((m:Int)-1 - (j:Int)))])
  (fun (j:Nat) hp=>j≤m∧St B h0 hp (pt p 355 [.slice A m c]::Bn.row 357 1 (.slice A m c) vs::(JR j++F)))
  0 (.cons rfl (.cons rfl (.cons (by rw [show (m:Int)-1 - ((0:Nat):Int)=(m:Int)-1 by omega];rfl) (.nil _)))) ⟨Nat.zero_le _,st0⟩ ?_
 rintro j hp ⟨hj,st⟩
 refine AL ?_
 refine AK rfl (fun h=> ?_) (fun h=> ?_)
 ·have hjm:j<m:=by omega
  rw [show (m:Int)-1 - (j:Int)=((m-1-j:Nat):Int) by omega]
  have hrs:=(st.rdS 1 rfl).2
  obtain ⟨g,o,rfl,hcA⟩:=hrs.at_ (by omega)
  have hci:=hcA (m-1-j) (vs.getD (m-1-j) (.slice none 0 0)) (by rw [z9 (by omega)];simp [List.getD,hvl,show m-1-j<m by omega])
  refine AO ?_
  refine xc st 0 0 ?_
  refine AB ?_
  refine xl (hci) rfl ?_
  refine Ia (Io rfl (hround j _ _ st.low hjm (st.here.perm (zb [pt p 355 [.slice _ m c],Bn.row 357 1 (.slice _ m c) vs] (JR j) F))) rfl) rfl rfl rfl ?_
  rintro _ hp3 ⟨rfl,st4⟩
  have st5:=st.trans (st4.perm (zb (JR (j+1)) [pt p 355 [.slice _ m c],Bn.row 357 1 (.slice _ m c) vs] F))
  refine AO ?_
  refine xa (EU rfl rfl (by simp only [AI];omega)) (AB ?_)
  exact Ad (j+1) (.cons rfl (.cons rfl (.cons (by rw [show (m:Int)-1 - ((j+1:Nat):Int)=((m-1-j:Nat):Int)-1 by omega];rfl) (.nil _)))) ⟨by omega,st5⟩ (by omega)
 ·refine AB ?_
  obtain rfl:j=m:=by omega
  exact st.tail.tail
end Go.Bn
end

section
namespace Go.Bn
open Go Proofs
theorem Sd {x:Nat}:∀ {d:List Nat} {k:Nat},k≤d.length→(∀i,i<k→d.getD i 0=x)→(d.length≤k∨d.getD k 0≠x)→HF x d=k
 | [],k,h1,_,_=>by
  have:k=0:=by simpa using h1
  subst this;rfl
 | y::r,0,h1,h2,h3=>by
  unfold HF
  rcases h3 with h3 | h3
  ·simp at h3
  ·rw [if_neg (by simpa using h3)]
 | y::r,k+1,h1,h2,h3=>by
  have hy:=h2 0 (by omega)
  rw [List.getD_cons_zero]at hy
  unfold HF
  rw [if_pos hy,Sd (k:=k) (by simpa using h1) (fun i hi=>by have:=h2 (i+1) (by omega);rwa [List.getD_cons_succ]at this) (by rw [List.getD_cons_succ]at h3;simpa using h3)]
theorem S9 (l:List Nat) (a i:Nat):(l.drop a).getD i 0=l.getD (a+i) 0:=by simp [List.getD,List.getElem?_drop]
theorem eD {n c a:Nat} {A:Option Addr} {l:List Nat} {h0:AA} (hr:Rd h0 A (l.map nV)) (hl:l.length=n) (hn:n≤17592186044416) (ha:a<n):
  AG Tryz.prog 319 [.slice A n c,nV a] h0 fun v h'=>v=nV (Ef l a)∧h0=h':=by
 obtain ⟨g,o,rfl,hc⟩:=hr.at_ (by rw [z3];omega)
 have hci:∀i,i<n→Az h0 ⟨g,o+i,none⟩=some (nV (l.getD i 0)):=fun i hi=>hc i _ (by rw [zr,z9 (by omega),E9 (by omega)];rfl)
 refine Ac Tryz.func319 rfl fun _=>BP ?_
 refine BD (fun k=>n-k) (fun k=>[(0,.slice (some ⟨g,o,none⟩) n c),(1,nV a),(5,nV k)])
  (fun (k:Nat) hp=>h0=hp∧a+k≤n∧∀i,i<k→l.getD (a+i) 0=l.getD a 0)
  0 (DJ rfl rfl rfl) ⟨rfl,by omega,fun i hi=>by omega⟩ ?_
 rintro k hp ⟨rfl,hk,hall⟩
 have hfin:(n≤a+k∨l.getD (a+k) 0≠l.getD a 0)→Ef l a=k:=fun h=>by
  unfold Ef
  refine Sd (by rw [z7];omega) (fun i hi=>by rw [S9];exact hall i hi) ?_
  rw [z7,S9]
  rcases h with h | h
  ·left;omega
  ·exact .inr h
 refine BP ?_
 refine Am 12 rfl (fun h=> ?_) (fun h=> ?_)
 ·have h12:=h
  refine AJ ?_
  refine xa (C0 (i:=a+k) rfl rfl rfl (by omega)) ?_
  refine xl (hci (a+k) (by omega)) rfl (AF ?_)
  refine xl (hci a (by omega)) rfl (AF ?_)
  refine AK rfl (fun h=> ?_) (fun h=> ?_)
  ·refine AP ?_
   exact Ad (k+1) (DJ rfl rfl rfl) ⟨rfl,by omega,fun i hi=>by
    rcases Nat.lt_or_ge i k with h9 | h9
    ·exact hall i h9
    ·obtain rfl:i=k:=by omega
     omega⟩ (by omega)
  ·refine AO ?_
   rw [hfin (.inr (by omega))]
   exact ⟨rfl,rfl⟩
 ·refine HQ ?_
  rw [hfin (.inl (by omega))]
  exact ⟨rfl,rfl⟩
def IL (x:Nat×Nat):List Value:=[nV x.1,nV x.2]
theorem Pt (x:Nat×Nat):∀u∈IL x,Value.one u=true:=Cz [x.1,x.2]
theorem d9 {n c a:Nat} {A:Option Addr} {l:List Nat} {h0:AA} (hr:Rd h0 A (l.map nV)) (hl:l.length=n) (hn:n≤17592186044416) (ha:a<n):
  AG Tryz.prog 305 [.slice A n c,nV a] h0 fun v h'=>v= .agg (IL (DG l a)).toArray∧AV h0 h':=by
 obtain ⟨g,o,rfl,hc⟩:=hr.at_ (by rw [z3];omega)
 have hci:∀i,i<n→Az h0 ⟨g,o+i,none⟩=some (nV (l.getD i 0)):=fun i hi=>hc i _ (by rw [zr,z9 (by omega),E9 (by omega)];rfl)
 have hP:DG l a=if l.getD a 0=0∧11≤Ef l a then (18,min (Ef l a) 138)else if l.getD a 0=0∧3≤Ef l a then (17,Ef l a)else
  if 0<a∧l.getD a 0=l.getD (a-1) 0∧3≤Ef l a then (16,min (Ef l a) 6)else (l.getD a 0,1):=rfl
 have hrl:=QY l a
 refine Ac Tryz.func305 rfl fun _=> ?_
 have st:=St.start h0
 refine AB ?_
 refine xn st fun p hp st=> ?_
 have hcx:=fun i (hi:i<n)=>Bz (a:=⟨g,o+i,none⟩) st.low (hci i hi)
 refine AH ?_
 refine xk (eD (hr.ext st.low) hl hn ha) rfl ?_
 rintro _ _ ⟨rfl,rfl⟩
 obtain ⟨r,hre⟩:∃r,Ef l a=r:=⟨_,rfl⟩
 rw [hre]at hP hrl ⊢
 refine Aj ?_
 refine xl (hcx a ha) rfl (AB ?_)
 refine Am 15 rfl (fun h=> ?_) (fun h=> ?_)
 ·have h15:=h
  refine AH ?_
  refine AK rfl (fun h=> ?_) (fun h=> ?_)
  ·refine AJ ?_
   refine AT (nV (min r 138)) (congrArg (Value.int .i64) (by omega)) ?_
   refine xa (AZ (ps:=[(0,nV 18),(1,nV (min r 138))]) (cs:= #[nV 18,nV (min r 138)]) rfl rfl) ?_
   refine xw (us:=[nV 18,nV (min r 138)]) st 0 (Cz [18,_]) fun hp st=> ?_
   simp only [z0]at st
   refine AC ?_
   refine Af (.cons (Ax rfl rfl rfl (st.cells 0 rfl)) .nil) ?_
   rw [hP,if_pos (by omega)]
   exact ⟨rfl,st.low⟩
  ·have h1:=h
   refine AH ?_
   refine xl (hcx a ha) rfl (AB ?_)
   refine Am 28 rfl (fun h=> ?_) (fun h=> ?_)
   ·have h28:=h
    refine AH ?_
    refine AK rfl (fun h=> ?_) (fun h=> ?_)
    ·refine AF ?_
     refine xa (AZ (ps:=[(0,nV 17),(1,nV r)]) (cs:= #[nV 17,nV r]) rfl rfl) ?_
     refine xw (us:=[nV 17,nV r]) st 0 (Cz [17,_]) fun hp st=> ?_
     simp only [z0]at st
     refine AC ?_
     refine Af (.cons (Ax rfl rfl rfl (st.cells 0 rfl)) .nil) ?_
     rw [hP,if_neg (by omega),if_pos (by omega)]
     exact ⟨rfl,st.low⟩
    ·have h2:=h
     refine AH ?_
     refine Am 37 rfl (fun h=> ?_) (fun h=> ?_)
     ·have h37:=h
      refine AF ?_
      refine xl (hcx a ha) rfl (AF ?_)
      refine xa (C0 (i:=a-1) rfl rfl rfl (by omega)) ?_
      refine xl (hcx (a-1) (by omega)) rfl (AF ?_)
      refine Am 49 rfl (fun h=> ?_) (fun h=> ?_)
      ·have h49:=h
       refine AH ?_
       refine AK rfl (fun h=> ?_) (fun h=> ?_)
       ·refine AJ ?_
        refine AT (nV (min r 6)) (congrArg (Value.int .i64) (by omega)) ?_
        refine xa (AZ (ps:=[(0,nV 16),(1,nV (min r 6))]) (cs:= #[nV 16,nV (min r 6)]) rfl rfl) ?_
        refine xw (us:=[nV 16,nV (min r 6)]) st 0 (Cz [16,_]) fun hp st=> ?_
        simp only [z0]at st
        refine AC ?_
        refine Af (.cons (Ax rfl rfl rfl (st.cells 0 rfl)) .nil) ?_
        rw [hP,if_neg (by omega),if_neg (by omega),if_pos (by omega)]
        exact ⟨rfl,st.low⟩
       ·have h3:=h
        refine AO ?_
        refine xl (hcx a ha) rfl ?_
        refine xa (AZ (ps:=[(0,nV (l.getD a 0)),(1,nV 1)]) (cs:= #[nV (l.getD a 0),nV 1]) rfl rfl) ?_
        refine xw (us:=[nV (l.getD a 0),nV 1]) st 0 (Cz [_,1]) fun hp st=> ?_
        simp only [z0]at st
        refine AC ?_
        refine Af (.cons (Ax rfl rfl rfl (st.cells 0 rfl)) .nil) ?_
        rw [hP,if_neg (by omega),if_neg (by omega),if_neg (by omega)]
        exact ⟨rfl,st.low⟩
      ·have h49:=h
       refine B3 ?_
       refine xl (hcx a ha) rfl ?_
       refine xa (AZ (ps:=[(0,nV (l.getD a 0)),(1,nV 1)]) (cs:= #[nV (l.getD a 0),nV 1]) rfl rfl) ?_
       refine xw (us:=[nV (l.getD a 0),nV 1]) st 0 (Cz [_,1]) fun hp st=> ?_
       simp only [z0]at st
       refine AC ?_
       refine Af (.cons (Ax rfl rfl rfl (st.cells 0 rfl)) .nil) ?_
       rw [hP,if_neg (by omega),if_neg (by omega),if_neg (by omega)]
       exact ⟨rfl,st.low⟩
     ·have h37:=h
      refine IV ?_
      refine xl (hcx a ha) rfl ?_
      refine xa (AZ (ps:=[(0,nV (l.getD a 0)),(1,nV 1)]) (cs:= #[nV (l.getD a 0),nV 1]) rfl rfl) ?_
      refine xw (us:=[nV (l.getD a 0),nV 1]) st 0 (Cz [_,1]) fun hp st=> ?_
      simp only [z0]at st
      refine AC ?_
      refine Af (.cons (Ax rfl rfl rfl (st.cells 0 rfl)) .nil) ?_
      rw [hP,if_neg (by omega),if_neg (by omega),if_neg (by omega)]
      exact ⟨rfl,st.low⟩
   ·have h28:=h
    refine Bu ?_
    refine Am 37 rfl (fun h=> ?_) (fun h=> ?_)
    ·have h37:=h
     refine AF ?_
     refine xl (hcx a ha) rfl (AF ?_)
     refine xa (C0 (i:=a-1) rfl rfl rfl (by omega)) ?_
     refine xl (hcx (a-1) (by omega)) rfl (AF ?_)
     refine Am 49 rfl (fun h=> ?_) (fun h=> ?_)
     ·have h49:=h
      refine AH ?_
      refine AK rfl (fun h=> ?_) (fun h=> ?_)
      ·refine AJ ?_
       refine AT (nV (min r 6)) (congrArg (Value.int .i64) (by omega)) ?_
       refine xa (AZ (ps:=[(0,nV 16),(1,nV (min r 6))]) (cs:= #[nV 16,nV (min r 6)]) rfl rfl) ?_
       refine xw (us:=[nV 16,nV (min r 6)]) st 0 (Cz [16,_]) fun hp st=> ?_
       simp only [z0]at st
       refine AC ?_
       refine Af (.cons (Ax rfl rfl rfl (st.cells 0 rfl)) .nil) ?_
       rw [hP,if_neg (by omega),if_neg (by omega),if_pos (by omega)]
       exact ⟨rfl,st.low⟩
      ·have h3:=h
       refine AO ?_
       refine xl (hcx a ha) rfl ?_
       refine xa (AZ (ps:=[(0,nV (l.getD a 0)),(1,nV 1)]) (cs:= #[nV (l.getD a 0),nV 1]) rfl rfl) ?_
       refine xw (us:=[nV (l.getD a 0),nV 1]) st 0 (Cz [_,1]) fun hp st=> ?_
       simp only [z0]at st
       refine AC ?_
       refine Af (.cons (Ax rfl rfl rfl (st.cells 0 rfl)) .nil) ?_
       rw [hP,if_neg (by omega),if_neg (by omega),if_neg (by omega)]
       exact ⟨rfl,st.low⟩
     ·have h49:=h
      refine B3 ?_
      refine xl (hcx a ha) rfl ?_
      refine xa (AZ (ps:=[(0,nV (l.getD a 0)),(1,nV 1)]) (cs:= #[nV (l.getD a 0),nV 1]) rfl rfl) ?_
      refine xw (us:=[nV (l.getD a 0),nV 1]) st 0 (Cz [_,1]) fun hp st=> ?_
      simp only [z0]at st
      refine AC ?_
      refine Af (.cons (Ax rfl rfl rfl (st.cells 0 rfl)) .nil) ?_
      rw [hP,if_neg (by omega),if_neg (by omega),if_neg (by omega)]
      exact ⟨rfl,st.low⟩
    ·have h37:=h
     refine IV ?_
     refine xl (hcx a ha) rfl ?_
     refine xa (AZ (ps:=[(0,nV (l.getD a 0)),(1,nV 1)]) (cs:= #[nV (l.getD a 0),nV 1]) rfl rfl) ?_
     refine xw (us:=[nV (l.getD a 0),nV 1]) st 0 (Cz [_,1]) fun hp st=> ?_
     simp only [z0]at st
     refine AC ?_
     refine Af (.cons (Ax rfl rfl rfl (st.cells 0 rfl)) .nil) ?_
     rw [hP,if_neg (by omega),if_neg (by omega),if_neg (by omega)]
     exact ⟨rfl,st.low⟩
 ·have h15:=h
  refine Bu ?_
  refine xl (hcx a ha) rfl (AB ?_)
  refine Am 28 rfl (fun h=> ?_) (fun h=> ?_)
  ·have h28:=h
   refine AH ?_
   refine AK rfl (fun h=> ?_) (fun h=> ?_)
   ·refine AF ?_
    refine xa (AZ (ps:=[(0,nV 17),(1,nV r)]) (cs:= #[nV 17,nV r]) rfl rfl) ?_
    refine xw (us:=[nV 17,nV r]) st 0 (Cz [17,_]) fun hp st=> ?_
    simp only [z0]at st
    refine AC ?_
    refine Af (.cons (Ax rfl rfl rfl (st.cells 0 rfl)) .nil) ?_
    rw [hP,if_neg (by omega),if_pos (by omega)]
    exact ⟨rfl,st.low⟩
   ·have h2:=h
    refine AH ?_
    refine Am 37 rfl (fun h=> ?_) (fun h=> ?_)
    ·have h37:=h
     refine AF ?_
     refine xl (hcx a ha) rfl (AF ?_)
     refine xa (C0 (i:=a-1) rfl rfl rfl (by omega)) ?_
     refine xl (hcx (a-1) (by omega)) rfl (AF ?_)
     refine Am 49 rfl (fun h=> ?_) (fun h=> ?_)
     ·have h49:=h
      refine AH ?_
      refine AK rfl (fun h=> ?_) (fun h=> ?_)
      ·refine AJ ?_
       refine AT (nV (min r 6)) (congrArg (Value.int .i64) (by omega)) ?_
       refine xa (AZ (ps:=[(0,nV 16),(1,nV (min r 6))]) (cs:= #[nV 16,nV (min r 6)]) rfl rfl) ?_
       refine xw (us:=[nV 16,nV (min r 6)]) st 0 (Cz [16,_]) fun hp st=> ?_
       simp only [z0]at st
       refine AC ?_
       refine Af (.cons (Ax rfl rfl rfl (st.cells 0 rfl)) .nil) ?_
       rw [hP,if_neg (by omega),if_neg (by omega),if_pos (by omega)]
       exact ⟨rfl,st.low⟩
      ·have h3:=h
       refine AO ?_
       refine xl (hcx a ha) rfl ?_
       refine xa (AZ (ps:=[(0,nV (l.getD a 0)),(1,nV 1)]) (cs:= #[nV (l.getD a 0),nV 1]) rfl rfl) ?_
       refine xw (us:=[nV (l.getD a 0),nV 1]) st 0 (Cz [_,1]) fun hp st=> ?_
       simp only [z0]at st
       refine AC ?_
       refine Af (.cons (Ax rfl rfl rfl (st.cells 0 rfl)) .nil) ?_
       rw [hP,if_neg (by omega),if_neg (by omega),if_neg (by omega)]
       exact ⟨rfl,st.low⟩
     ·have h49:=h
      refine B3 ?_
      refine xl (hcx a ha) rfl ?_
      refine xa (AZ (ps:=[(0,nV (l.getD a 0)),(1,nV 1)]) (cs:= #[nV (l.getD a 0),nV 1]) rfl rfl) ?_
      refine xw (us:=[nV (l.getD a 0),nV 1]) st 0 (Cz [_,1]) fun hp st=> ?_
      simp only [z0]at st
      refine AC ?_
      refine Af (.cons (Ax rfl rfl rfl (st.cells 0 rfl)) .nil) ?_
      rw [hP,if_neg (by omega),if_neg (by omega),if_neg (by omega)]
      exact ⟨rfl,st.low⟩
    ·have h37:=h
     refine IV ?_
     refine xl (hcx a ha) rfl ?_
     refine xa (AZ (ps:=[(0,nV (l.getD a 0)),(1,nV 1)]) (cs:= #[nV (l.getD a 0),nV 1]) rfl rfl) ?_
     refine xw (us:=[nV (l.getD a 0),nV 1]) st 0 (Cz [_,1]) fun hp st=> ?_
     simp only [z0]at st
     refine AC ?_
     refine Af (.cons (Ax rfl rfl rfl (st.cells 0 rfl)) .nil) ?_
     rw [hP,if_neg (by omega),if_neg (by omega),if_neg (by omega)]
     exact ⟨rfl,st.low⟩
  ·have h28:=h
   refine Bu ?_
   refine Am 37 rfl (fun h=> ?_) (fun h=> ?_)
   ·have h37:=h
    refine AF ?_
    refine xl (hcx a ha) rfl (AF ?_)
    refine xa (C0 (i:=a-1) rfl rfl rfl (by omega)) ?_
    refine xl (hcx (a-1) (by omega)) rfl (AF ?_)
    refine Am 49 rfl (fun h=> ?_) (fun h=> ?_)
    ·have h49:=h
     refine AH ?_
     refine AK rfl (fun h=> ?_) (fun h=> ?_)
     ·refine AJ ?_
      refine AT (nV (min r 6)) (congrArg (Value.int .i64) (by omega)) ?_
      refine xa (AZ (ps:=[(0,nV 16),(1,nV (min r 6))]) (cs:= #[nV 16,nV (min r 6)]) rfl rfl) ?_
      refine xw (us:=[nV 16,nV (min r 6)]) st 0 (Cz [16,_]) fun hp st=> ?_
      simp only [z0]at st
      refine AC ?_
      refine Af (.cons (Ax rfl rfl rfl (st.cells 0 rfl)) .nil) ?_
      rw [hP,if_neg (by omega),if_neg (by omega),if_pos (by omega)]
      exact ⟨rfl,st.low⟩
     ·have h3:=h
      refine AO ?_
      refine xl (hcx a ha) rfl ?_
      refine xa (AZ (ps:=[(0,nV (l.getD a 0)),(1,nV 1)]) (cs:= #[nV (l.getD a 0),nV 1]) rfl rfl) ?_
      refine xw (us:=[nV (l.getD a 0),nV 1]) st 0 (Cz [_,1]) fun hp st=> ?_
      simp only [z0]at st
      refine AC ?_
      refine Af (.cons (Ax rfl rfl rfl (st.cells 0 rfl)) .nil) ?_
      rw [hP,if_neg (by omega),if_neg (by omega),if_neg (by omega)]
      exact ⟨rfl,st.low⟩
    ·have h49:=h
     refine B3 ?_
     refine xl (hcx a ha) rfl ?_
     refine xa (AZ (ps:=[(0,nV (l.getD a 0)),(1,nV 1)]) (cs:= #[nV (l.getD a 0),nV 1]) rfl rfl) ?_
     refine xw (us:=[nV (l.getD a 0),nV 1]) st 0 (Cz [_,1]) fun hp st=> ?_
     simp only [z0]at st
     refine AC ?_
     refine Af (.cons (Ax rfl rfl rfl (st.cells 0 rfl)) .nil) ?_
     rw [hP,if_neg (by omega),if_neg (by omega),if_neg (by omega)]
     exact ⟨rfl,st.low⟩
   ·have h37:=h
    refine IV ?_
    refine xl (hcx a ha) rfl ?_
    refine xa (AZ (ps:=[(0,nV (l.getD a 0)),(1,nV 1)]) (cs:= #[nV (l.getD a 0),nV 1]) rfl rfl) ?_
    refine xw (us:=[nV (l.getD a 0),nV 1]) st 0 (Cz [_,1]) fun hp st=> ?_
    simp only [z0]at st
    refine AC ?_
    refine Af (.cons (Ax rfl rfl rfl (st.cells 0 rfl)) .nil) ?_
    rw [hP,if_neg (by omega),if_neg (by omega),if_neg (by omega)]
    exact ⟨rfl,st.low⟩
theorem Vf {n c:Nat} {A:Option Addr} {h0:AA}:AG Tryz.prog 270 [.slice A n c] h0 fun v h'=>∃p,v= .func (.func 304) #[] #[.pointer (some ⟨p,0,none⟩)]∧St h0.size h0 h' [pt p 61 [.slice A n c]]:=by
 refine BE Tryz.func270 rfl fun _=> ?_
 have st:=St.start h0
 refine AB ?_
 refine xv (Bv rfl rfl) ?_
 rintro _ hp ⟨p,rfl,hnew⟩
 replace st:=st.new hnew
 refine AP ?_
 exact ⟨_,rfl,st⟩
theorem VF {B y p n c:Nat} {A:Option Addr} {l:List Nat} {F:List AE} {h0:AA} (JR:List (Nat×Nat)→List AE) (st0:St B h0 h0 (pt p 61 [.slice A n c]::(JR []++F)))
  (hr:∀h' rs,St B h0 h' (rs++F)→Rd h' A (l.map nV)) (hl:l.length=n) (hn:n≤1048576)
  (hround:∀ (s:List (Nat×Nat)) (x:Nat×Nat) (r:List (Nat×Nat)) (F':List AE) (h:AA),BC B h0 h→s++x::r=Cg l 0→St B h h (JR s++F')→FJ Tryz.prog y [.agg (IL x).toArray] h fun u h'=>u= .bool true∧St B h h' (JR (s++[x])++F')):
  AG Tryz.prog 304 [.func (.yield y) #[] #[],.pointer (some ⟨p,0,none⟩)] h0 fun _ h'=>St B h0 h' (JR (Cg l 0)++F):=by
 refine Ac Tryz.func304 rfl fun _=>AH ?_
 refine BD (fun s=>n-s.1) (fun s=>[(0,.func (.yield y) #[] #[]),(1,.pointer (some ⟨p,0,none⟩)),(3,nV s.1)])
  (fun (s:Nat×List (Nat×Nat)) hp=>s.1≤n∧s.2++Cg l s.1=Cg l 0∧St B h0 hp (pt p 61 [.slice A n c]::(JR s.2++F)))
  (0,[]) (DJ rfl rfl rfl) ⟨Nat.zero_le _,rfl,st0⟩ ?_
 rintro ⟨a,s⟩ hp ⟨ha,hs,st⟩
 simp only at ha hs st ⊢
 refine AJ ?_
 refine xc st 0 0 ?_
 refine AF ?_
 refine AK rfl (fun h=> ?_) (fun h=> ?_)
 ·have hpm:=MA (l:=l) (at_:=a) (by omega)
  have hrl:=QY l a
  rw [QD (by omega)]at hs
  refine AJ ?_
  refine xc st 0 0 ?_
  refine AC ?_
  refine xk (d9 (hr hp (pt p 61 [.slice A n c]::JR s) st) hl (by omega) (by omega)) rfl ?_
  rintro _ hp2 ⟨rfl,hx2⟩
  replace st:=st.ext hx2
  obtain ⟨x,hx⟩:∃x,DG l a=x:=⟨_,rfl⟩
  rw [hx]at hs hpm ⊢
  refine xn st fun p4 hp st=> ?_
  refine xw (us:=IL x) st 0 (Pt x) fun hp st=> ?_
  simp only [z0]at st
  have st3:=st.perm (zb [pt p4 372 (IL x),pt p 61 [.slice A n c]] (JR s) F)
  refine AH ?_
  refine xa (Ai (vs:=IL x) (st.cells 0 rfl) rfl rfl rfl rfl) ?_
  refine Ia (Io rfl (hround s x _ _ _ st3.low hs st3.here) rfl) rfl rfl rfl ?_
  rintro _ hp3 ⟨rfl,st4⟩
  replace st:=(st3.trans st4).perm (zb (JR (s++[x])) [pt p4 372 (IL x),pt p 61 [.slice A n c]] F)
  refine AO ?_
  refine xc st 0 1 ?_
  refine AJ ?_
  exact Ad (a+x.2,s++[x]) (DJ rfl rfl rfl) ⟨by simp only;omega,by simp only;rw [z8];exact hs,st.tail⟩ (by simp only;omega)
 ·refine AB ?_
  rw [VD (by omega),List.append_nil]at hs
  rw [←hs]
  exact st.tail
theorem dr (x:Int) (h0:AA):AG Tryz.prog 303 [.int .i64 x] h0 fun v h'=>v= .bool (decide (x<0∨15<x))∧h0=h':=by
 refine BE Tryz.func303 rfl fun _=>Aj ?_
 refine Am 5 rfl (fun h=> ?_) (fun h=> ?_)
 ·refine AL ?_
  first
   | exact ⟨congrArg Value.bool (decide_eq_true (by omega)).symm,rfl⟩
   | exact ⟨congrArg Value.bool (decide_eq_decide.2 ⟨fun hh=>by omega,fun hh=>by omega⟩),rfl⟩
 ·refine AL ?_
  first
   | exact ⟨congrArg Value.bool (decide_eq_true (by omega)).symm,rfl⟩
   | exact ⟨congrArg Value.bool (decide_eq_decide.2 ⟨fun hh=>by omega,fun hh=>by omega⟩),rfl⟩
theorem eB {n c:Nat} {A:Option Addr} {li:List Int} {h0:AA} (hr:Rd h0 A (li.map iV)) (hl:li.length=n) (hn:n≤17592186044416):
  AG Tryz.prog 269 [.slice A n c] h0 fun v h'=>v= .bool (decide (∀x∈li,0≤x∧x≤15))∧h0=h':=by
 refine BE Tryz.func269 rfl fun _=>AO ?_
 refine xk (Ou (q:=fun x=>decide (x<0∨15<x)) (by kernel_rfl) hr hl hn (fun x _=>dr x _)) rfl ?_
 rintro _ _ ⟨rfl,rfl⟩
 refine xa (Bm rfl) ?_
 rw [OX]
 refine AF ?_
 exact ⟨rfl,rfl⟩
theorem VB (l:List Nat):∀f a,(FR l f a).length≤f
 | 0,_=>Nat.le_refl _
 | f+1,a=>by
  rw [FR]
  split
  ·have:=VB l f (a+(DG l a).2)
   simp;omega
  ·simp
theorem VE (l:List Nat):(Cg l 0).length≤l.length:=by
 have:=VB l (l.length-0) 0
 unfold Cg;omega
end Go.Bn
end

section
namespace Go.Bn
def EM (s:List (Nat×Nat)):List Nat:=(List.range 19).map fun k=>(s.map (·.1)).count k
theorem HM (s:List (Nat×Nat)):(EM s).length=19:=by simp [EM]
theorem cz:EM []=List.replicate 19 0:=by decide
theorem QG {s:List (Nat×Nat)} {x:Nat} (hx:x<19):(EM s)[x]? =some ((s.map (·.1)).count x):=by unfold EM;simp [hx]
theorem dA {s:List (Nat×Nat)} (x:Nat×Nat):(EM s).set x.1 ((s.map (·.1)).count x.1+1)=EM (s++[x]):=by
 refine List.ext_getElem (by simp [EM]) fun i h1 h2=> ?_
 rw [List.getElem_set]
 by_cases h:x.1=i
 ·rw [if_pos h]
  simp only [EM,List.getElem_map,List.getElem_range]
  rw [List.map_append,List.count_append,h];simp [h]
 ·rw [if_neg h]
  simp only [EM,List.getElem_map,List.getElem_range]
  rw [List.map_append,List.count_append]
  have:([x].map (·.1)).count i=0:=by
   simp only [zj,List.map_nil]
   rw [List.count_singleton,beq_eq_false_iff_ne.2 h];rfl
  rw [this,Nat.add_zero]
theorem VG (s:List (Nat×Nat)):∀y∈EM s,y≤s.length:=by
 intro y hy
 obtain ⟨k,_,rfl⟩:=List.mem_map.1 hy
 have:=List.count_le_length (a:=k) (l:=s.map (·.1))
 rwa [z3]at this
theorem VC {l:List Nat} (hb:∀x∈l,x≤15):∀f a,∀x∈FR l f a,x.1<19∧rL x.1≤x.2∧x.2≤rH x.1
 | 0,_,x,h=>by simp [FR]at h
 | f+1,a,x,h=>by
  rw [FR]at h
  split at h
  ·rename_i ha
   rcases List.mem_cons.1 h with rfl | h
   ·have:=U3 hb ha;exact ⟨this.1,this.2.1,this.2.2.1⟩
   ·exact VC hb f _ x h
  ·simp at h
theorem QE {l:List Nat} (hb:∀x∈l,x≤15):∀x∈Cg l 0,x.1<19∧rL x.1≤x.2∧x.2≤rH x.1:=VC hb _ _
noncomputable def C1 (l:List Nat):List Nat:=DY (EM (Cg l 0))
theorem Kb (l:List Nat):(C1 l).length=19:=by unfold C1;rw [Hg,HM]
theorem dM {l:List Nat} (hb:∀x∈l,x≤15) {x:Nat×Nat} (hx:x∈Cg l 0):(C1 l).getD x.1 0≠0:=by
 have h19:=(QE hb x hx).1
 have hc:0 < ((Cg l 0).map (·.1)).count x.1:=List.count_pos_iff.2 (List.mem_map_of_mem hx)
 have hw:Bo (EM (Cg l 0)) x.1=((Cg l 0).map (·.1)).count x.1:=by unfold Bo;rw [List.getD,QG h19];rfl
 have hm:x.1∈BI (EM (Cg l 0)):=Hk.2 ⟨by rw [HM];exact h19,by rw [hw];exact hc⟩
 unfold C1
 rw [Tp (by rw [HM];exact h19)]
 have:=Tn (ws:=EM (Cg l 0)) (by rw [HM];decide) hm
 omega
theorem QJ {l:List Nat} (hb:∀x∈l,x≤15) (h1:1≤l.length):Bi (C1 l):=by
 have hx:DG l 0∈Cg l 0:=by rw [QD (by omega)];exact zp
 have hs:1≤(BI (EM (Cg l 0))).length:=by
  have h19:=(QE hb _ hx).1
  have hc:0 < ((Cg l 0).map (·.1)).count (DG l 0).1:=List.count_pos_iff.2 (List.mem_map_of_mem hx)
  have hw:Bo (EM (Cg l 0)) (DG l 0).1=((Cg l 0).map (·.1)).count (DG l 0).1:=by unfold Bo;rw [List.getD,QG h19];rfl
  exact List.length_pos_of_mem (Hk.2 ⟨by rw [HM];exact h19,by rw [hw];exact hc⟩)
 refine ⟨by rw [Kb];decide,by rw [Kb];decide,Tr _,?_⟩
 rcases Nat.lt_or_ge 1 (BI (EM (Cg l 0))).length with h | h
 ·exact .inl (Tq h (by rw [HM];decide))
 ·exact .inr (Ts (by omega) (by rw [HM];decide))
def Er (lens:List Nat) (x:Nat×Nat):List Bool:=Bh (val lens x.1) (lens.getD x.1 0)++BM (rW x.1) (x.2-rL x.1)
theorem QA {lens:List Nat} (h:Bi lens) (x:Nat×Nat):(Er lens x).length≤22:=by
 unfold Er
 rw [z2,Dp,DE]
 have h1:=QQ x.1
 have h2:lens.getD x.1 0≤15:=by
  rcases Nat.lt_or_ge x.1 lens.length with h3 | h3
  ·rw [ER h3];exact h.2.2.1 _ (List.getElem_mem h3)
  ·simp [List.getD,h3]
 omega
theorem KH {α:Type} (f:α→List Bool) (b:Nat) (hf:∀x,(f x).length≤b):∀s:List α,(s.flatMap f).length≤s.length*b
 | []=>by simp
 | x::s=>by
  have:=KH f b hf s
  have:=hf x
  rw [zt,z2,ze,Nat.add_mul];omega
noncomputable def EW (l:List Nat) (i:Nat):List Bool:=BM 9 l.length++((C1 l).take i).flatMap (BM 4)
noncomputable def Be (l:List Nat):List Bool:=EW l 19++(Cg l 0).flatMap (Er (C1 l))
theorem QM (l:List Nat) (i:Nat):(EW l i).length≤9+76:=by
 unfold EW
 have:=KH (BM 4) 4 (fun x=>by rw [DE];exact Nat.le_refl _) ((C1 l).take i)
 rw [z6,Kb]at this
 rw [z2,DE]
 omega
theorem Nx {l:List Nat} {i:Nat} (hi:i<19):EW l (i+1)=EW l i++BM 4 ((C1 l).getD i 0):=by
 unfold EW
 rw [Jz (by rw [Kb];exact hi),List.flatMap_append,z8];simp
end Go.Bn
namespace Go.Bn
open Go
section
variable {c:Cx} {k:List DW} {E:Au} {hp:AA}
theorem dP {vs:List Value} {a:Act} {w:World} {D:List Deferred} {d e:Nat} (hD:D=[HL d,HL e]) (hd:hp[d]? =some (.deferred (some []))) (he:(Es hp d)[e]? =some (.deferred (some []))) (h:FZ c.P (Es (Es hp d) e) E c.fn.results.toList vs) (hΦ:c.Φ (Al vs) (Es (Es hp d) e)) (ho:OK c.fn.ntmps E a) (hi:B8 c.w0 w) (hw:w.heap=hp):
  LeavesInM Fence.wide 0 c.P c.fn a.tmps c.R D .returning w:=by
 subst hD
 have hh1:(w.putObj d (.deferred none)).heap=Es hp d:=by rw [←hw];rfl
 have ht:(Instr.takeDeferred d).run c.P w= .ok [] (w.putObj d (.deferred none)):=run_takeDeferred (by rw [hw];exact hd)
 have ht2:(Instr.takeDeferred e).run c.P (w.putObj d (.deferred none))= .ok [] ((w.putObj d (.deferred none)).putObj e (.deferred none)):=run_takeDeferred (by rw [hh1];exact he)
 refine ⟨by simp,.inl ⟨d,w.putObj d (.deferred none),rfl,ht,?_⟩⟩
 refine ⟨by simp,.inl ⟨e,(w.putObj d (.deferred none)).putObj e (.deferred none),rfl,ht2,?_⟩⟩
 have hh:((w.putObj d (.deferred none)).putObj e (.deferred none)).heap=Es (Es hp d) e:=by rw [←hw];rfl
 exact ⟨Al vs,QS ho hh h,Al vs,rfl,⟨hi.os,hi.tape,hi.output⟩,by rw [hh];exact hΦ⟩
attribute [local semireducible] X in
theorem XX {vs:List Value} {d e:Nat} (h:FZ c.P (Es (Es hp d) e) E c.fn.results.toList vs) (hΦ:c.Φ (Al vs) (Es (Es hp d) e)) (hd:hp[d]? =some (.deferred (some []))) (he:(Es hp d)[e]? =some (.deferred (some []))) (hB:c.B=bodyPostM Fence.wide 0 c.P c.fn c.R:=by rfl) (hD:c.D=[HL d,HL e]:=by rfl):X c (.code .ret::k) E hp:=fun a w ho hi hw=>by
 refine wpIn_ret (J6 ?_ k)
 rw [hB]
 exact dP (ho.2.trans hD) hd he h hΦ ho.1 hi hw
end
end Go.Bn
end

section
namespace Go.Bn
theorem PY {ws:List Nat} (h1:1≤ws.length) (h2:ws.length≤320) (hs:(BI ws).length≠0):Bi (DY ws):=by
 refine ⟨by rw [Hg];exact h1,by rw [Hg];exact h2,Tr ws,?_⟩
 by_cases h:(BI ws).length=1
 ·exact .inr (Ts h (by omega))
 ·exact .inl (Tq (by omega) (by omega))
theorem MH {ls:List Nat} (h:Bi ls):D5 (Cr ls):=by
 obtain ⟨h1,h2,h3,h4⟩:=h
 refine ⟨by unfold Cr;rw [z3];exact h1,⟨by unfold Cr;rw [z3];exact h2,fun x hx=> ?_⟩,by rw [JC];exact h4⟩
 obtain ⟨y,hy,rfl⟩:=List.mem_map.1 hx
 have:=h3 y hy
 omega
theorem OU (l:List Nat) (i j:Nat):l.getD j 0≤(Fw l i).getD j 0:=by
 unfold Fw
 rw [List.getD_eq_getElem?_getD,List.getD_eq_getElem?_getD,List.getElem?_set]
 split
 ·rename_i h
  subst h
  split
  ·rw [List.getD_eq_getElem?_getD];simp
  ·rw [List.getElem?_eq_none (by omega)];simp
 ·exact Nat.le_refl _
theorem OV {l:List Nat} {i:Nat} (h:i<l.length):0 < (Fw l i).getD i 0:=by
 unfold Fw
 rw [List.getD_eq_getElem?_getD,List.getElem?_set,if_pos rfl,if_pos h]
 simp
theorem S0 (ys:List Sy):0 < (DO ys).1.getD 256 0:=by
 suffices h:∀ (ys:List Sy) (s:List Nat×List Nat×Nat),0<s.1.getD 256 0→0 < (ys.foldl C2 s).1.getD 256 0 from h ys Ga (by decide+kernel)
 intro ys
 induction ys with
 | nil=>intro s h;exact h
 | cons y ys ih=>
  intro s h
  rw [List.foldl_cons]
  exact ih _ (Nat.lt_of_lt_of_le h (OU s.1 y.a.num.toNat 256))
theorem Su (ys:List Sy):(BI (Hb ys)).length≠0:=by
 have h:256∈BI (Hb ys):=Hk.2 ⟨by unfold Hb;rw [(H7 ys).1];decide,S0 ys⟩
 have:=List.length_pos_of_mem h
 omega
theorem Zk {ys:List Sy} (hb:∀y∈ys,y.b.num.toNat<30):(DO ys).2.2=0∨∃i,i<30∧0 < (DO ys).2.1.getD i 0:=by
 suffices h:∀ (ys:List Sy),(∀y∈ys,y.b.num.toNat<30)→∀ (s:List Nat×List Nat×Nat),s.2.1.length=30→(s.2.2=0∨∃i,i<30∧0<s.2.1.getD i 0)→((ys.foldl C2 s).2.2=0∨∃i,i<30∧0 < (ys.foldl C2 s).2.1.getD i 0)from h ys hb Ga (by decide+kernel) (.inl rfl)
 intro ys
 induction ys with
 | nil=>intro _ s _ h;exact h
 | cons y ys ih=>
  intro hb s hl h
  rw [List.foldl_cons]
  have hy:=hb y zp
  refine ih (fun z hz=>hb z (zq _ hz)) _ ?_ ?_
  ·simp only [C2];split
   ·rw [Ky];exact hl
   ·exact hl
  ·simp only [C2]
   by_cases hm:y.m=true
   ·rw [if_pos hm,if_pos hm]
    exact .inr ⟨_,hy,OV (by omega)⟩
   ·rw [if_neg hm,if_neg hm];exact h
theorem Ho (ys:List Sy):(FU ys).length=30:=by
 unfold FU
 split
 ·rw [List.length_set];exact (H7 ys).2.1
 ·exact (H7 ys).2.1
theorem Hc (ys:List Sy):(Hb ys).length=273:=(H7 ys).1
theorem V4 {ys:List Sy} (hb:∀y∈ys,y.b.num.toNat<30):(BI (FU ys)).length≠0:=by
 have h:∃i,i∈BI (FU ys):=by
  by_cases h0:(DO ys).2.2=0
  ·refine ⟨0,Hk.2 ⟨by rw [Ho];decide,?_⟩⟩
   unfold Bo FU
   rw [if_pos h0,List.getD_eq_getElem?_getD,List.getElem?_set,if_pos rfl,if_pos (by rw [(H7 ys).2.1];decide)]
   exact Nat.zero_lt_one
  ·rcases Zk hb with h1 | ⟨i,h1,h2⟩
   ·exact absurd h1 h0
   ·refine ⟨i,Hk.2 ⟨by rw [Ho];exact h1,?_⟩⟩
    unfold Bo FU
    rw [if_neg h0];exact h2
 obtain ⟨i,h⟩:=h
 have:=List.length_pos_of_mem h
 omega
theorem Zf (ys:List Sy):∀x∈Hb ys,x≤1+ys.length:=fun x hx=>zw (KN hx) (H7 ys).2.2.1
theorem eX (ys:List Sy):∀x∈FU ys,x≤1+ys.length:=fun x hx=>by
 unfold FU at hx
 split at hx
 ·rcases List.mem_or_eq_of_mem_set hx with h | h
  ·have:=zw (KN h) (H7 ys).2.2.2.1;omega
  ·omega
 ·have:=zw (KN hx) (H7 ys).2.2.2.1;omega
def Dn (ls:List Nat) (c:BQ):List Bool:=Bh (val ls c.num.toNat) (CI ls c.num)++BM (wd 32 c.bits) c.ext.toNat
def B1 (la lb:List Nat) (y:Sy):List Bool:=Dn la y.a++(if y.m=true then Dn lb y.b else [])
noncomputable def lA (ys:List Sy):List Nat:=DY (Hb ys)
noncomputable def lB (ys:List Sy):List Nat:=DY (FU ys)
noncomputable def EA (ys:List Sy):List Bool:=Be (lA ys)++Be (lB ys)++ys.flatMap (B1 (lA ys) (lB ys))++Bh (val (lA ys) 256) (CI (lA ys) 256)
theorem NE (ys:List Sy):Bi (lA ys):=PY (by rw [Hc];decide) (by rw [Hc];decide) (Su ys)
theorem NF {ys:List Sy} (hb:∀y∈ys,y.b.num.toNat<30):Bi (lB ys):=PY (by rw [Ho];decide) (by rw [Ho];decide) (V4 hb)
theorem Ny {l:List Nat} (h:Bi l):(Be l).length≤85+l.length*22:=by
 have hok:=QJ h.2.2.1 h.1
 have h1:=KH (Er (C1 l)) 22 (QA hok) (Cg l 0)
 have h2:=QM l 19
 have h3:=VE l
 have h4:=Nat.mul_le_mul_right 22 h3
 unfold Be
 rw [z2]
 omega
theorem Qs {ls:List Nat} (h:Bi ls) (c:BQ):(Dn ls c).length≤47:=by
 unfold Dn
 rw [z2,Dp,DE]
 have h1:=NL h c.num
 have h2:wd 32 c.bits≤32:=OL _ _
 omega
theorem Wc {la lb:List Nat} (ha:Bi la) (hb:Bi lb) (y:Sy):(B1 la lb y).length≤94:=by
 unfold B1
 have h1:=Qs ha y.a
 have h2:=Qs hb y.b
 rw [z2]
 split
 ·omega
 ·rw [zk];omega
end Go.Bn
end

section
namespace Go.Bn
open Go Proofs
theorem NZ (Q:List Bool) {k x:Nat} (z:List Bool) (hx:x<2^k):CB (Q++(BM k x++z)) Q.length k=x:=by
 unfold CB
 rw [List.drop_left,List.take_append_of_le_length (by rw [DE];exact Nat.le_refl _),za (by rw [DE];exact Nat.le_refl _),J0,Nat.mod_eq_of_lt hx]
theorem dh (s:Nat):rH s-rL s<2^rW s:=by
 unfold rH rL rW
 split
 ·decide
 ·split
  ·decide
  ·split
   ·decide
   ·decide
theorem TH {ls lens:List Nat} (hb:∀x∈ls,x≤15) (hok:Bi lens) (h19:lens.length=19) (z:List Bool):∀ (f a:Nat) (Q:List Bool),a≤ls.length→ls.length<a+f→(∀x∈Cg ls a,lens.getD x.1 0≠0)→
  F1 lens (Q++((Cg ls a).flatMap (Er lens)++z)) ls.length f Q.length (ls.take a)=(ls,(Q++(Cg ls a).flatMap (Er lens)).length,0)
 | 0,a,Q,ha,hf,hp=>by omega
 | f+1,a,Q,ha,hf,hp=>by
  rw [F1]
  have hlt:=z6 (l:=ls) (i:=a)
  rw [Nat.min_eq_left ha]at hlt
  rw [hlt]
  by_cases h:a<ls.length
  ·rw [if_neg (by omega)]
   have hfit:=U3 hb h
   have hm:=MA h
   have hrl:=QY ls a
   have hadd:=cv hb h
   rw [QD h]at hp ⊢
   obtain ⟨x,hx⟩:∃x,DG ls a=x:=⟨_,rfl⟩
   rw [hx]at hfit hm hadd hp ⊢
   have hx0:=hp x zp
   have hxl:x.1<lens.length:=by omega
   have hge:=ER hxl
   rw [hge]at hx0
   have ih:=TH hb hok h19 z f (a+x.2) (Q++Er lens x) (by omega) (by omega) (fun y hy=>hp y (zq _ hy))
   obtain ⟨R,hR⟩:∃R,(Cg ls (a+x.2)).flatMap (Er lens)=R:=⟨_,rfl⟩
   rw [zt,hR]
   rw [hR]at ih
   have hpb:Er lens x=Bh (val lens x.1) lens[x.1]++BM (rW x.1) (x.2-rL x.1):=by unfold Er;rw [hge]
   obtain ⟨S,hS⟩:∃S,Q++(Er lens x++R++z)=S:=⟨_,rfl⟩
   have hS1:S=Q++(Bh (val lens x.1) lens[x.1]++(BM (rW x.1) (x.2-rL x.1)++(R++z))):=by rw [←hS,hpb];simp
   have hS2:S=(Q++Bh (val lens x.1) lens[x.1])++(BM (rW x.1) (x.2-rL x.1)++(R++z)):=by rw [hS1];simp
   have hS3:Q++Er lens x++(R++z)=S:=by rw [←hS];simp
   have htk:BJ lens (S.drop Q.length)=(x.1,lens[x.1],0):=by rw [hS1,List.drop_left];exact Wg hok hxl hx0 _
   have hrw:=dh x.1
   have hnum:CB S (Q.length+lens[x.1]) (rW x.1)=x.2-rL x.1:=by
    have:=NZ (Q++Bh (val lens x.1) lens[x.1]) (R++z) (show x.2-rL x.1<2^rW x.1 by omega)
    rw [←hS2,z2,Dp]at this
    exact this
   have hSl:Q.length+lens[x.1]+rW x.1≤S.length:=by rw [hS2];simp only [z2,Dp,DE];omega
   rw [hS3]at ih
   rw [hS,htk]
   simp only
   rw [hnum,if_neg (by omega),if_neg (by omega),if_neg (fun hh=>by have:=hfit.2.2.2 hh.1;omega),if_neg (by omega),show rL x.1+(x.2-rL x.1)=x.2 by omega,hadd]
   rw [show (Q++Er lens x).length=Q.length+lens[x.1]+rW x.1 by rw [hpb];simp only [z2,Dp,DE];omega]at ih
   rw [ih]
   simp only [z8]
  ·rw [if_pos (by omega),VD (by omega),za (by omega)]
   simp
theorem QN (l:List Nat):∀i,i≤19→(EW l i).length=9+4*i
 | 0,_=>by unfold EW;simp [DE]
 | i+1,h=>by
  rw [Nx (by omega),z2,QN l i (by omega),DE];omega
theorem VV (l:List Nat):∀j i,i+j=19→∃r,EW l 19=EW l i++r
 | 0,i,h=>⟨[],by rw [List.append_nil,show i=19 by omega]⟩
 | j+1,i,h=>by
  obtain ⟨r,hr⟩:=VV l j (i+1) (by omega)
  exact ⟨BM 4 ((C1 l).getD i 0)++r,by rw [hr,Nx (by omega),z8]⟩
theorem OD {ls:List Nat} (hb:∀x∈ls,x≤15) (h1:1≤ls.length) (h320:ls.length≤320) (Q z:List Bool):CS (Q++(Be ls++z)) Q.length (B0 (Q++(Be ls++z)) Q.length)=(ls,Q.length+(Be ls).length,0):=by
 have hok:=QJ hb h1
 have h19:=Kb ls
 have hl85:=QN ls 19 (by omega)
 obtain ⟨R,hR⟩:∃R,(Cg ls 0).flatMap (Er (C1 ls))=R:=⟨_,rfl⟩
 have hput:Be ls=EW ls 19++R:=by unfold Be;rw [hR]
 obtain ⟨S,hS⟩:∃S,Q++(Be ls++z)=S:=⟨_,rfl⟩
 have hS1:S=Q++(EW ls 19++(R++z)):=by rw [←hS,hput,z8]
 have hn:CB S Q.length 9=ls.length:=by
  have:=NZ Q (k:=9) (x:=ls.length) (((C1 ls).take 19).flatMap (BM 4)++(R++z)) (by omega)
  rw [hS1]
  unfold EW
  rw [z8]
  exact this
 have hlens:EH S (Q.length+9) 19=C1 ls:=by
  refine List.ext_getElem (by rw [LR,h19]) fun k q1 q2=> ?_
  simp only [EH,List.getElem_map,List.getElem_range]
  rw [if_pos (by omega)]
  obtain ⟨r,hr⟩:=VV ls (18-k) (k+1) (by omega)
  have hle:=hok.2.2.1 _ (List.getElem_mem q2)
  have:=NZ (Q++EW ls k) (k:=4) (x:=(C1 ls)[k]) (r++(R++z)) (by omega)
  rw [z2,QN ls k (by omega)]at this
  rw [hS1,hr,Nx (by omega),ER q2,z8,z8]
  rw [show Q.length+9+4*k=Q.length+(9+4*k) by omega]
  rw [z8]at this
  exact this
 have hokr:B0 S Q.length=true:=by
  unfold B0
  rw [hlens]
  refine decide_eq_true ?_
  refine ⟨by rw [z3,h19];omega,⟨by rw [z3,h19];omega,fun x hx=> ?_⟩,by rw [JE];exact hok.2.2.2⟩
  obtain ⟨y,hy,rfl⟩:=List.mem_map.1 hx
  have:=hok.2.2.1 y hy;omega
 have hSl:Q.length+85≤S.length:=by rw [hS1,z2,z2];omega
 rw [hS,hokr]
 have hH:Fh S Q.length true=0:=by
  unfold Fh
  rw [if_neg (by omega),hn,if_neg (by omega),if_neg (by omega),if_pos rfl]
 unfold CS
 rw [if_neg (by omega),hlens,hn]
 have:=TH hb hok h19 z 321 0 (Q++EW ls 19) (by omega) (by omega) (fun x hx=>dM hb hx)
 rw [hR,z8,←hS1,List.take_zero,z2,hl85,z8,←hput,z2]at this
 exact this
theorem Mn {ls:List Nat} (hok:Bi ls) {c:BQ} {n fr:Nat} (hn:c.num=n) (hl:n<ls.length) (h0:ls[n]≠0) (hlit:n<fr→c.bits=0∧c.ext=0) (hbig:fr≤n→c.bits=BO (n-fr)∧0≤c.ext∧c.ext < ((2^BO (n-fr):Nat):Int)) (h32:fr≤n→BO (n-fr)≤32) (Q Z:List Bool):
  CA ls fr (Q++(Dn ls c++Z)) Q.length=(c,Q.length+(Dn ls c).length,0):=by
 have hge:CI ls c.num=ls[n]:=by
  unfold CI
  rw [hn,if_neg (by omega),Int.toNat_natCast]
  exact E9 hl
 obtain ⟨cn,cb,ce⟩:=c
 simp only at hn hlit hbig hge ⊢
 subst hn
 have hsy:Dn ls ⟨n,cb,ce⟩=Bh (val ls n) ls[n]++BM (wd 32 cb) ce.toNat:=by
  unfold Dn
  simp only [Int.toNat_natCast]
  rw [hge]
 obtain ⟨S,hS⟩:∃S,Q++(Dn ls ⟨n,cb,ce⟩++Z)=S:=⟨_,rfl⟩
 have hS1:S=Q++(Bh (val ls n) ls[n]++(BM (wd 32 cb) ce.toNat++Z)):=by rw [←hS,hsy,z8]
 have hS2:S=(Q++Bh (val ls n) ls[n])++(BM (wd 32 cb) ce.toNat++Z):=by rw [hS1];simp
 have htk:BJ ls (S.drop Q.length)=(n,ls[n],0):=by rw [hS1,List.drop_left];exact Wg hok hl h0 _
 have hslen:(Dn ls ⟨n,cb,ce⟩).length=ls[n]+wd 32 cb:=by rw [hsy,z2,Dp,DE]
 rw [hS,hslen]
 unfold CA
 rw [htk]
 simp only
 by_cases hlt:n<fr
 ·obtain ⟨rfl,rfl⟩:=hlit hlt
  rw [if_pos (.inr hlt)]
  rfl
 ·obtain ⟨hb,he1,he2⟩:=hbig (by omega)
  have h32:=h32 (by omega)
  obtain ⟨e,rfl⟩:∃e:Nat,ce=e:=⟨ce.toNat,by omega⟩
  have hw:wd 32 cb=BO (n-fr):=by unfold wd;omega
  have he3:e<2^BO (n-fr):=by omega
  rw [hw,Int.toNat_natCast]at hS2
  have hnum:CB S (Q.length+ls[n]) (BO (n-fr))=e:=by
   have:=NZ (Q++Bh (val ls n) ls[n]) Z he3
   rw [←hS2,z2,Dp]at this
   exact this
  have hSl:Q.length+ls[n]+BO (n-fr)≤S.length:=by rw [hS2];simp only [z2,Dp,DE];omega
  rw [if_neg (by omega),if_neg (by omega),hnum,hw,hb]
  simp only [Nat.add_assoc]
theorem TX (v:Nat):(CG v).num=CW v∧(CG v).bits=BO (CW v)∧0≤(CG v).ext∧(CG v).ext < ((2^BO (CW v):Nat):Int):=by
 obtain ⟨h1,h2,_⟩:=JQ v
 rw [show CY (CW v+1)=CY (CW v)+2^BO (CW v)from rfl]at h2
 refine ⟨rfl,rfl,by simp only [CG];omega,by simp only [CG];omega⟩
theorem Rt {i:Nat} (h:i<30):BO i≤32:=by unfold BO;split <;> omega
theorem UL {la lb:List Nat} (oka:Bi la) (okb:Bi lb) (h273:la.length=273) (h30:lb.length=30) {t:AW} (ht:t.right) (hby:0≤t.byte∧t.byte<256)
  (ha:la.getD (BH t).a.num.toNat 0≠0) (hb:(BH t).m=true→lb.getD (BH t).b.num.toNat 0≠0) (Q Z:List Bool):
  Cy la lb (Q++(B1 la lb (BH t)++Z)) Q.length=(t,Q.length+(B1 la lb (BH t)).length,false,0):=by
 obtain ⟨hj,n1,n2,n3,n4,n5⟩:=ND ht hby
 have ht':=ht
 unfold AW.right at ht
 by_cases h0:t.len=0
 ·rw [if_pos h0]at ht
  have e:BH t=⟨⟨t.byte,0,0⟩,BQ.nil,false⟩:=by unfold BH;rw [if_pos h0]
  rw [e]at hj ha ⊢
  obtain ⟨n,hn⟩:∃n:Nat,t.byte=n:=⟨t.byte.toNat,by omega⟩
  simp only [hn,Int.toNat_natCast]at hj ha ⊢
  have hl:n<la.length:=by omega
  rw [E9 hl]at ha
  have hsy:B1 la lb ⟨⟨n,0,0⟩,BQ.nil,false⟩=Dn la ⟨n,0,0⟩:=by unfold B1;simp
  rw [hsy]
  have hc:=Mn oka (c:=⟨n,0,0⟩) (fr:=257) rfl hl ha (fun _=>⟨rfl,rfl⟩) (fun h=>by omega) (fun h=>by omega) Q Z
  unfold Cy
  rw [hc]
  simp only
  rw [if_neg (by omega),if_neg (by omega),hj,if_pos rfl]
 ·rw [if_neg h0]at ht
  obtain ⟨g1,g2,g3,g4,g5⟩:=ht
  have e:BH t=⟨⟨(CG (t.len-3).toNat).num+257,(CG (t.len-3).toNat).bits,(CG (t.len-3).toNat).ext⟩,CG (t.dist-1).toNat,true⟩:=by unfold BH;rw [if_neg h0]
  have k1:=PR (show (t.len-3).toNat<256 by omega)
  have k2:=(JQ (t.dist-1).toNat).2.2 (by omega)
  obtain ⟨p1,p2,p3,p4⟩:=TX (t.len-3).toNat
  obtain ⟨q1,q2,q3,q4⟩:=TX (t.dist-1).toNat
  rw [e]at hj ha hb ⊢
  obtain ⟨ka,hka⟩:∃k,CG (t.len-3).toNat=k:=⟨_,rfl⟩
  obtain ⟨kb,hkb⟩:∃k,CG (t.dist-1).toNat=k:=⟨_,rfl⟩
  obtain ⟨na,hna⟩:∃k,CW (t.len-3).toNat=k:=⟨_,rfl⟩
  obtain ⟨nb,hnb⟩:∃k,CW (t.dist-1).toNat=k:=⟨_,rfl⟩
  rw [hka,hna]at p1 p2 p4
  rw [hka]at p3 hj ha hb ⊢
  rw [hkb,hnb]at q1 q2 q4
  rw [hkb]at q3 hj hb ⊢
  rw [hna]at k1
  rw [hnb]at k2
  have hb:=hb rfl
  simp only at ha hb
  rw [show (ka.num+257).toNat=na+257 by omega]at ha
  rw [show kb.num.toNat=nb by omega]at hb
  have hla:na+257<la.length:=by omega
  have hlb:nb<lb.length:=by omega
  rw [E9 hla]at ha
  rw [E9 hlb]at hb
  have hsy:B1 la lb ⟨⟨ka.num+257,ka.bits,ka.ext⟩,kb,true⟩=Dn la ⟨ka.num+257,ka.bits,ka.ext⟩++Dn lb kb:=by unfold B1;rw [if_pos rfl]
  rw [hsy]
  have hc:=Mn oka (c:=⟨ka.num+257,ka.bits,ka.ext⟩) (n:=na+257) (fr:=257) (by show ka.num+257=((na+257:Nat):Int);omega) hla ha (fun h=>by omega) (fun _=>by rw [show na+257-257=na by omega];exact ⟨p2,p3,p4⟩) (fun _=>Rt (by omega)) Q (Dn lb kb++Z)
  have hd:=Mn okb (c:=kb) (n:=nb) (fr:=0) q1 hlb hb (fun h=>by omega) (fun _=>⟨q2,q3,q4⟩) (fun _=>Rt (by omega)) (Q++Dn la ⟨ka.num+257,ka.bits,ka.ext⟩) Z
  rw [z2,z8]at hd
  unfold Cy
  rw [z8,hc]
  simp only
  rw [if_neg (by omega),if_pos (by omega),hd]
  simp only
  rw [if_neg (by omega),hj,if_pos rfl,z2,Nat.add_assoc]
theorem bc {la lb:List Nat} (oka:Bi la) (h273:la.length=273) (ha:la.getD 256 0≠0) (Q Z:List Bool):
  Cy la lb (Q++(Bh (val la 256) (CI la 256)++Z)) Q.length=(AW.nil,Q.length+(Bh (val la 256) (CI la 256)).length,true,0):=by
 have hl:256<la.length:=by omega
 rw [E9 hl]at ha
 have hsy:Dn la ⟨(256:Nat),0,0⟩=Bh (val la 256) (CI la 256):=by unfold Dn;simp [wd];rfl
 have hc:=Mn oka (c:=⟨(256:Nat),0,0⟩) (fr:=257) rfl hl ha (fun _=>⟨rfl,rfl⟩) (fun h=>by omega) (fun h=>by omega) Q Z
 rw [hsy]at hc
 unfold Cy
 rw [hc]
 simp only
 rw [if_pos (.inr rfl)]
def GO:Nat→List AW→Prop
  | _,[]=>True
  | sz,t::ts=>t.dist≤sz∧GO (sz+t.size) ts
def CQ (ts:List AW):Nat:=(ts.map AW.size).sum
theorem TD {la lb:List Nat} (oka:Bi la) (okb:Bi lb) (h273:la.length=273) (h30:lb.length=30) (h256:la.getD 256 0≠0) (Z:List Bool) {most:Int}:∀ (ts:List AW),(∀t∈ts,t.right∧(0≤t.byte∧t.byte<256)∧la.getD (BH t).a.num.toNat 0≠0∧((BH t).m=true→lb.getD (BH t).b.num.toNat 0≠0))→∀ (f sz:Nat) (acc:List AW) (Q:List Bool),ts.length<f→GO sz ts→((sz+CQ ts:Nat):Int)≤most→
  FA la lb (Q++((ts.map BH).flatMap (B1 la lb)++(Bh (val la 256) (CI la 256)++Z))) most f Q.length sz acc=(acc++ts,sz+CQ ts,Q.length+((ts.map BH).flatMap (B1 la lb)).length+(Bh (val la 256) (CI la 256)).length,0)
 | [],_,f,sz,acc,Q,hf,_,_=>by
  obtain ⟨g,rfl⟩:∃g,f=g+1:=⟨f-1,by simp at hf;omega⟩
  have hn:=bc (lb:=lb) oka h273 h256 Q Z
  rw [List.map_nil,List.flatMap_nil,z4,FA,hn]
  simp [CQ]
 | t::ts,h,f,sz,acc,Q,hf,hd,hm=>by
  obtain ⟨g,rfl⟩:∃g,f=g+1:=⟨f-1,by simp at hf;omega⟩
  obtain ⟨h1,h2,h3,h4⟩:=h t zp
  obtain ⟨d1,d2⟩:=hd
  have hst:CQ (t::ts)=t.size+CQ ts:=by simp [CQ]
  rw [hst]at hm ⊢
  rw [zj,zt,z8]
  have hn:=UL oka okb h273 h30 h1 h2 h3 h4 Q ((ts.map BH).flatMap (B1 la lb)++(Bh (val la 256) (CI la 256)++Z))
  have ih:=TD oka okb h273 h30 h256 Z (most:=most) ts (fun x hx=>h x (zq _ hx)) g (sz+t.size) (acc++[t]) (Q++B1 la lb (BH t)) (by simp at hf;omega) d2 (by omega)
  rw [FA,hn]
  simp only
  rw [if_neg (by simp),if_neg (by omega),if_neg (by omega)]
  rw [z8,z2]at ih
  rw [ih,z2]
  simp only [z8,z5,z4,Prod.mk.injEq,and_true,true_and]
  omega
end Go.Bn
end

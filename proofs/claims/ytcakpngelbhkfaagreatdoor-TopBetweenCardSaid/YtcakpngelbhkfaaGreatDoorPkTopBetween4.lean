/- Packed texts of a claim: what its theorem uses, joined. -/
import Derived.Test.YtcakpngelbhkfaaGreatDoorProg
import Derived.Scope
import Derived.Test.YtcakpngelbhkfaaGreatDoorPkTopBetween3
set_option maxRecDepth 100000
set_option maxHeartbeats 4000000
set_option linter.unusedVariables false
set_option linter.unusedSimpArgs false
set_option linter.unusedSectionVars false
set_option linter.defProp false
section
namespace Go.Bn
def cn (ls:List Nat) (n:Nat):Nat:=if n=0 then 0 else ls.count n
def fst (ls:List Nat):Nat→Nat
  | 0=>0
  | n+1=>(fst ls n+cn ls n)*2
def val (ls:List Nat) (s:Nat):Nat:=if ls.getD s 0=0 then 0 else fst ls (ls.getD s 0)+(ls.take s).count (ls.getD s 0)
def I2 (ls:List Nat):List Nat:=(List.range ls.length).map (val ls)
theorem W3 (ls:List Nat):(I2 ls).length=ls.length:=by simp [I2]
def Ft (k:Nat):Nat:=if k=0 then 0 else 2^(15-k)
def ES (ls:List Nat):Nat:=(ls.map Ft).sum
def Bi (ls:List Nat):Prop:=1≤ls.length∧ls.length≤320∧(∀x∈ls,x≤15)∧(ES ls=32768∨ls.sum=1)
def GC (ls:List Nat):Nat→Nat
  | 0=>0
  | n+1=>GC ls n+cn ls (n+1)*2^(15 - (n+1))
theorem U6 (ls:List Nat):∀n,n≤15→(fst ls n+cn ls n)*2^(15-n)=GC ls n
 | 0,_=>by simp [fst,cn,GC]
 | n+1,h=>by
  have ih:=U6 ls n (by omega)
  have e:15-n=(15 - (n+1))+1:=by omega
  rw [e,Nat.pow_succ]at ih
  rw [GC,←ih,fst,Nat.add_mul,Nat.mul_assoc,Nat.mul_comm 2]
theorem U8:∀n,GC [] n=0
 | 0=>rfl
 | n+1=>by simp [GC,U8 n,cn]
theorem U5 (x:Nat) (ls:List Nat):∀n,GC (x::ls) n=GC ls n+if 1≤x∧x≤n then 2^(15-x)else 0
 | 0=>by rw [if_neg (by omega)];rfl
 | n+1=>by
  have ih:=U5 x ls n
  rw [GC,GC,ih]
  have hc:cn (x::ls) (n+1)=cn ls (n+1)+if x=n+1 then 1 else 0:=by
   unfold cn
   rw [if_neg (by omega),if_neg (by omega),List.count_cons]
   congr 1
   simp
  rw [hc]
  by_cases h1:x=n+1
  ·subst h1
   rw [if_pos rfl,if_neg (by omega),if_pos ⟨by omega,by omega⟩,Nat.add_mul];omega
  ·rw [if_neg h1,Nat.add_zero]
   by_cases h2:1≤x∧x≤n
   ·rw [if_pos h2,if_pos ⟨h2.1,by omega⟩];omega
   ·rw [if_neg h2,if_neg (by omega)];omega
theorem U7:∀ (ls:List Nat),(∀x∈ls,x≤15)→GC ls 15=ES ls
 | [],_=>by simp [U8,ES]
 | x::ls,h=>by
  have ih:=U7 ls fun y hy=>h y (zq _ hy)
  have hx:=h x zp
  rw [U5,ih]
  simp only [ES,zj,List.sum_cons,Ft]
  by_cases h0:x=0
  ·rw [if_neg (by omega),if_pos h0];omega
  ·rw [if_pos (by omega),if_neg h0];omega
theorem cx (ls : List Nat) {a b : Nat} (h : a ≤ b) : GC ls a ≤ GC ls b := by
  induction b with
  | zero => obtain rfl : a = 0 := by omega
            exact Nat.le_refl _
  | succ b ih =>
    rcases Nat.lt_or_ge b a with h1 | h1
    · obtain rfl : a = b + 1 := by omega
      exact Nat.le_refl _
    · have := ih h1; rw [GC]; omega
theorem PS:∀ (ls:List Nat),ls.sum=0→ES ls=0
 | [],_=>rfl
 | x::ls,h=>by
  simp only [List.sum_cons]at h
  have ih:=PS ls (by omega)
  obtain rfl:x=0:=by omega
  simp only [ES,zj,List.sum_cons,Ft]at ih ⊢
  rw [ih];rfl
theorem TZ:∀ (ls:List Nat),ls.sum=1→ES ls=16384
 | [],h=>by simp at h
 | x::ls,h=>by
  simp only [List.sum_cons]at h
  have e:ES (x::ls)=Ft x+ES ls:=rfl
  rcases (by omega:x=0∧ls.sum=1∨x=1∧ls.sum=0)with ⟨rfl,h1⟩ | ⟨rfl,h1⟩
  ·rw [e,TZ ls h1];rfl
  ·rw [e,PS ls h1];rfl
theorem Bi.kraft_le {ls:List Nat} (h:Bi ls):ES ls≤32768:=by
 rcases h.2.2.2 with h | h
 ·omega
 ·rw [TZ ls h];omega
theorem KI {ls:List Nat} (h:Bi ls) {n:Nat} (hn:n≤15):fst ls n+cn ls n≤2^n:=by
 have h1:=U6 ls n hn
 have h2:=cx ls hn
 rw [U7 ls h.2.2.1]at h2
 have h3:=h.kraft_le
 have e:2^n*2^(15-n)=32768:=by rw [←Nat.pow_add,show n+(15-n)=15 by omega]
 exact Nat.le_of_mul_le_mul_right (by omega:(fst ls n+cn ls n)*2^(15-n)≤2^n*2^(15-n)) (Nat.pow_pos (by omega))
theorem LJ {ls:List Nat} (h:Bi ls) {n:Nat} (hn:n≤15):fst ls n+cn ls n≤32768:=
 zw (KI h hn) (Nat.pow_le_pow_right (by omega) hn)
theorem Mp {n:Nat} (ls:List Nat) (h:n≠0):cn ls n=ls.count n:=by unfold cn;rw [if_neg h]
theorem LC {ls:List Nat} {s:Nat} (h:s<ls.length) (n:Nat):(ls.take (s+1)).count n=(ls.take s).count n+if ls[s]=n then 1 else 0:=by
 rw [List.take_succ_eq_append_getElem h,List.count_append]
 congr 1
 rw [List.count_cons,List.count_nil];simp
theorem Y6 {ls:List Nat} {s:Nat} (h:s<ls.length):(ls.take s).count ls[s]<ls.count ls[s]:=by
 have h1:=LC h ls[s]
 rw [if_pos rfl]at h1
 have h2:(ls.take (s+1)).count ls[s]≤ls.count ls[s]:=(List.take_sublist _ _).count_le _
 omega
theorem HP {ls:List Nat} (h:Bi ls) {s:Nat} (hs:s<ls.length) (h0:ls[s]≠0):val ls s<fst ls ls[s]+cn ls ls[s]∧fst ls ls[s]≤val ls s:=by
 have e:ls.getD s 0=ls[s]:=by simp [List.getD,hs]
 unfold val
 rw [e,if_neg h0,Mp ls h0]
 have:=Y6 hs
 omega
def Ej (ls:List Nat) (n s:Nat) (j:Nat):Nat:=if (0<ls.getD j 0∧ls.getD j 0<n)∨(ls.getD j 0=n∧j<s)then val ls j else 0
theorem f7 (ls:List Nat) (h:∀x∈ls,x≤15):(List.range ls.length).map (Ej ls 16 0)=I2 ls:=by
 refine List.map_congr_left fun j hj=> ?_
 have hj:j<ls.length:=List.mem_range.1 hj
 have e:ls.getD j 0=ls[j]:=by simp [List.getD,hj]
 have:=h ls[j] (List.getElem_mem hj)
 unfold Ej
 rw [e]
 by_cases h0:ls[j]=0
 ·rw [if_neg (by omega)];unfold val;rw [e,if_pos h0]
 ·rw [if_pos (by omega)]
theorem f9 (ls:List Nat) (n:Nat) (hn:0<n):(List.range ls.length).map (Ej ls n ls.length)=(List.range ls.length).map (Ej ls (n+1) 0):=by
 refine List.map_congr_left fun j hj=> ?_
 have hj:j<ls.length:=List.mem_range.1 hj
 unfold Ej
 generalize ls.getD j 0=x
 by_cases h:(0<x∧x<n)∨(x=n∧j<ls.length)
 ·rw [if_pos h,if_pos (by omega)]
 ·rw [if_neg h,if_neg (by omega)]
theorem gF {ls:List Nat} {n s:Nat} (hs:s<ls.length) (h:ls[s]≠n):(List.range ls.length).map (Ej ls n s)=(List.range ls.length).map (Ej ls n (s+1)):=by
 refine List.map_congr_left fun j hj=> ?_
 have hj:j<ls.length:=List.mem_range.1 hj
 have e:ls.getD j 0=ls[j]:=by simp [List.getD,hj]
 unfold Ej
 rw [e]
 have hne:j=s→ls[j]≠n:=by rintro rfl;exact h
 by_cases h1:(0<ls[j]∧ls[j]<n)∨(ls[j]=n∧j<s)
 ·rw [if_pos h1,if_pos (by omega)]
 ·rw [if_neg h1,if_neg (by
   rintro (h2 | ⟨h2,h3⟩)
   ·exact h1 (.inl h2)
   ·rcases Nat.lt_or_ge j s with h4 | h4
    ·exact h1 (.inr ⟨h2,h4⟩)
    ·exact hne (by omega) h2)]
theorem gD {ls:List Nat} {n s:Nat} (hs:s<ls.length) (h:ls[s]=n) (h0:n≠0):((List.range ls.length).map (Ej ls n s)).set s (fst ls n+(ls.take s).count n)=(List.range ls.length).map (Ej ls n (s+1)):=by
 apply List.ext_getElem
 ·simp
 ·intro j h1 h2
  have hj:j<ls.length:=by simpa using h2
  have e:ls.getD j 0=ls[j]:=by simp [List.getD,hj]
  rw [List.getElem_set]
  by_cases hjs:s=j
  ·subst hjs
   rw [if_pos rfl]
   simp only [List.getElem_map,List.getElem_range,Ej,e]
   rw [if_pos (.inr ⟨h,by omega⟩)]
   unfold val
   rw [e,h,if_neg h0]
  ·rw [if_neg hjs]
   simp only [List.getElem_map,List.getElem_range,Ej,e]
   by_cases h1:(0<ls[j]∧ls[j]<n)∨(ls[j]=n∧j<s)
   ·rw [if_pos h1,if_pos (by omega)]
   ·rw [if_neg h1,if_neg (by omega)]
def Dr (ls:List Nat) (n s:Nat):List Nat:=(List.range s).filter fun j=>ls.getD j 0==n
def Ds (ls:List Nat) (n:Nat):List Nat:=(List.range' 1 (n-1)).flatMap fun m=>Dr ls m ls.length
theorem L4 (ls:List Nat) {n:Nat} (h:1≤n):Ds ls (n+1)=Ds ls n++Dr ls n ls.length:=by
 unfold Ds
 obtain ⟨k,rfl⟩:∃k,n=k+1:=⟨n-1,by omega⟩
 simp only [Nat.add_sub_cancel]
 rw [List.range'_1_concat,List.flatMap_append]
 simp [Nat.add_comm]
theorem La {ls:List Nat} {n s:Nat} (hs:s<ls.length):Dr ls n (s+1)=Dr ls n s++if ls[s]=n then [s]else []:=by
 unfold Dr
 rw [List.range_succ,List.filter_append]
 congr 1
 have e:ls.getD s 0=ls[s]:=by simp [List.getD,hs]
 simp only [List.filter_cons,List.filter_nil,e,beq_iff_eq]
theorem Im (ls:List Nat) (n:Nat):∀s,s≤ls.length→(Dr ls n s).length=(ls.take s).count n
 | 0,_=>by simp [Dr]
 | s+1,h=>by
  rw [La (by omega),z2,Im ls n s (by omega),LC (by omega)]
  congr 1
  split <;> rfl
theorem gG (ls:List Nat):(List.range ls.length).map (Ej ls 1 0)=List.replicate ls.length 0:=by
 apply List.ext_getElem
 ·simp
 ·intro j h1 h2
  simp only [List.getElem_map,List.getElem_range,List.getElem_replicate,Ej]
  rw [if_neg (by omega)]
def Eu (ls:List Nat) (i:Nat):List Nat:=(List.range 16).map fun x=>(ls.take i).count x
theorem Yo {ls:List Nat} {i x:Nat} (hi:i<ls.length) (hx:ls[i]=x):(Eu ls i).set x ((ls.take i).count x+1)=Eu ls (i+1):=by
 apply List.ext_getElem
 ·simp [Eu]
 ·intro j h1 h2
  rw [List.getElem_set]
  simp only [Eu,List.getElem_map,List.getElem_range]
  rw [LC hi]
  by_cases h:x=j
  ·subst h;rw [if_pos rfl,if_pos hx]
  ·rw [if_neg h,if_neg (by omega)];rfl
def E7 (ls:List Nat):List Nat:=(List.range 16).map (cn ls)
theorem Yn (ls:List Nat):(Eu ls ls.length).set 0 0=E7 ls:=by
 apply List.ext_getElem
 ·simp [Eu,E7]
 ·intro j h1 h2
  rw [List.getElem_set]
  simp only [Eu,E7,List.getElem_map,List.getElem_range,List.take_length,cn]
  by_cases h:0=j
  ·subst h;simp
  ·rw [if_neg h,if_neg (fun e=>h e.symm)]
def EQ (ls:List Nat) (n:Nat):List Nat:=(List.range 16).map fun x=>if x<n then fst ls x else 0
theorem Zq {ls:List Nat} {n:Nat} (h:n<16):(EQ ls n).set n (fst ls n)=EQ ls (n+1):=by
 apply List.ext_getElem
 ·simp [EQ]
 ·intro j h1 h2
  rw [List.getElem_set]
  simp only [EQ,List.getElem_map,List.getElem_range]
  by_cases h:n=j
  ·subst h;rw [if_pos rfl,if_pos (by omega)]
  ·rw [if_neg h]
   by_cases h3:j<n
   ·rw [if_pos h3,if_pos (by omega)]
   ·rw [if_neg h3,if_neg (by omega)]
theorem Zp (ls:List Nat):EQ ls 1=List.replicate 16 0:=by
 apply List.ext_getElem
 ·simp [EQ]
 ·intro j h1 h2
  simp only [EQ,List.getElem_map,List.getElem_range,List.getElem_replicate]
  split
  ·obtain rfl:j=0:=by omega
   rfl
  ·rfl
theorem Yp (ls:List Nat):Eu ls 0=List.replicate 16 0:=by
 apply List.ext_getElem
 ·simp [Eu]
 ·intro j h1 h2;simp [Eu,-List.reduceReplicate]
theorem P4 (ls:List Nat):∀n,(Ds ls (n+1)).length≤n*ls.length
 | 0=>by simp [Ds]
 | n+1=>by
  rw [L4 ls (by omega),z2,Im ls _ _ (Nat.le_refl _),List.take_length]
  have:=P4 ls n
  have:=List.count_le_length (a:=n+1) (l:=ls)
  rw [Nat.add_mul];omega
end Go.Bn
end

section
namespace Go.Bn
open Go Proofs
@[reducible] def iV (x:Int):Value:= .int .i64 x
@[reducible] def nV (x:Nat):Value:= .int .i64 (x:Int)
theorem Ps (l:List Int):∀u∈l.map iV,Value.one u=true:=br .i64 l
theorem Cz (l:List Nat):∀u∈l.map nV,Value.one u=true:=by
 intro u hu;obtain ⟨x,_,rfl⟩:=List.mem_map.1 hu;rfl
theorem Hl (l:List Nat):l.map nV=(l.map fun n:Nat=>(n:Int)).map iV:=by
 rw [List.map_map];rfl
theorem Z6 {k n c:Nat} {A:Option Addr} {caps:Array Value} {li:List Int} {q:Int→Bool} {h0:AA} (hk:EB Tryz.prog k=true) (hr:Rd h0 A (li.map iV)) (hl:li.length=n) (hn:n≤17592186044416)
  (hq:∀x∈li,AG Tryz.prog k (.int .i64 x::caps.toList) h0 fun v h'=>v= .bool (q x)∧h0=h'):
  AG Tryz.prog 316 [.slice A n c,.func (.func k) #[] caps] h0 fun v h'=>∃r:Int,v= .int .i64 r∧(0≤r↔li.any q=true)∧h0=h':=by
 refine Ac Tryz.func316 rfl fun _=>By ?_
 refine BD (fun i=>n-i) (fun i=>[(0,.slice A n c),(1,.func (.func k) #[] caps),(7,.int .i64 (n:Int)),(8,.int .i64 (i:Int))])
  (fun (i:Nat) hp=>h0=hp∧i≤n∧∀x∈li.take i,q x=false) 0 (Bt rfl rfl rfl rfl) ⟨rfl,by omega,by simp⟩ ?_
 rintro i hp ⟨rfl,hi,hno⟩
 refine AH ?_
 refine AK rfl (fun h=> ?_) (fun h=> ?_)
 ·have hin:i<li.length:=by omega
  obtain ⟨gb,o,rfl,hc⟩:=hr.at_ (by rw [z3];omega)
  have hci:=hc i (iV li[i]) (by simp [hin])
  refine Bq ?_
  refine xl (hci) rfl ?_
  refine xv (IJ rfl (hq li[i] (List.getElem_mem hin)) rfl (hk)) ?_
  rintro _ _ ⟨rfl,rfl⟩
  refine AC ?_
  refine C6 rfl (fun h=> ?_) (fun h=> ?_)
  ·refine AL ?_
   refine ⟨i,rfl,⟨fun _=>List.any_eq_true.2 ⟨_,List.getElem_mem hin,h⟩,fun _=>by omega⟩,rfl⟩
  ·refine AL ?_
   refine Ad (i+1) (Bt rfl rfl rfl rfl) ⟨rfl,by omega,fun x hx=> ?_⟩ (by omega)
   rw [List.take_succ_eq_append_getElem hin]at hx
   rcases List.mem_append.1 hx with hx | hx
   ·exact hno x hx
   ·rw [zo.1 hx];exact h
 ·refine AL ?_
  refine ⟨-1,rfl,⟨fun hh=>by omega,fun hh=> ?_⟩,rfl⟩
  rw [za (by omega)]at hno
  obtain ⟨x,hx,hqx⟩:=List.any_eq_true.1 hh
  rw [hno x hx]at hqx;cases hqx
theorem Ou {k n c:Nat} {A:Option Addr} {caps:Array Value} {li:List Int} {q:Int→Bool} {h0:AA} (hk:EB Tryz.prog k=true) (hr:Rd h0 A (li.map iV)) (hl:li.length=n) (hn:n≤17592186044416)
  (hq:∀x∈li,AG Tryz.prog k (.int .i64 x::caps.toList) h0 fun v h'=>v= .bool (q x)∧h0=h'):
  AG Tryz.prog 291 [.slice A n c,.func (.func k) #[] caps] h0 fun v h'=>v= .bool (li.any q)∧h0=h':=by
 refine Ac Tryz.func291 rfl fun _=>AP ?_
 refine xk (Z6 hk hr hl hn hq) rfl ?_
 rintro _ _ ⟨r,rfl,hr2,rfl⟩
 refine AJ ?_
 refine ⟨congrArg Value.bool ?_,rfl⟩
 rw [Bool.eq_iff_iff,decide_eq_true_iff];exact hr2
theorem dq (x:Int) (h0:AA):AG Tryz.prog 300 [.int .i64 x] h0 fun v h'=>v= .bool (decide (x<0∨15<x))∧h0=h':=by
 refine BE Tryz.func300 rfl fun _=>Aj ?_
 refine Am 5 rfl (fun h=> ?_) (fun h=> ?_)
 ·refine AL ?_
  first
   | exact ⟨congrArg Value.bool (decide_eq_true (by omega)).symm,rfl⟩
   | exact ⟨congrArg Value.bool (decide_eq_decide.2 ⟨fun hh=>by omega,fun hh=>by omega⟩),rfl⟩
 ·refine AL ?_
  first
   | exact ⟨congrArg Value.bool (decide_eq_true (by omega)).symm,rfl⟩
   | exact ⟨congrArg Value.bool (decide_eq_decide.2 ⟨fun hh=>by omega,fun hh=>by omega⟩),rfl⟩
theorem du {p:Nat} {most:Int} (x:Int) {h0:AA} (hc:Az h0 ⟨p,0,none⟩=some (.int .i64 most)):AG Tryz.prog 292 [.int .i64 x,.pointer (some ⟨p,0,none⟩)] h0 fun v h'=>v= .bool (decide (x<0∨most<x))∧h0=h':=by
 refine Ac Tryz.func292 rfl fun _=>Aj ?_
 refine Am 6 rfl (fun h=> ?_) (fun h=> ?_)
 ·refine AO ?_
  first
   | exact ⟨congrArg Value.bool (decide_eq_true (by omega)).symm,rfl⟩
   | exact ⟨congrArg Value.bool (decide_eq_decide.2 ⟨fun hh=>by omega,fun hh=>by omega⟩),rfl⟩
 ·refine AC ?_
  refine xl (hc) rfl (AH ?_)
  first
   | exact ⟨congrArg Value.bool (decide_eq_true (by omega)).symm,rfl⟩
   | exact ⟨congrArg Value.bool (decide_eq_decide.2 ⟨fun hh=>by omega,fun hh=>by omega⟩),rfl⟩
def Gl (most:Int) (li:List Int):Prop:=li.length≤320∧∀x∈li,0≤x∧x≤most
instance (most:Int) (li:List Int):Decidable (Gl most li):=by unfold Gl;infer_instance
theorem OX (most:Int) (li:List Int):(!li.any fun x=>decide (x<0∨most<x))=decide (∀x∈li,0≤x∧x≤most):=by
 rw [Bool.eq_iff_iff]
 simp only [Bool.not_eq_true',List.any_eq_false,decide_eq_true_iff]
 exact ⟨fun h x hx=>by have:=h x hx;omega,fun h x hx=>by have:=h x hx;omega⟩
theorem XD {n c:Nat} {A:Option Addr} {li:List Int} (most:Int) {h0:AA} (hr:Rd h0 A (li.map iV)) (hl:li.length=n) (hn:n≤17592186044416):
  AG Tryz.prog 262 [.slice A n c,.int .i64 most] h0 fun v h'=>v= .bool (decide (Gl most li))∧AV h0 h':=by
 refine Ac Tryz.func262 rfl fun _=> ?_
 have st:=St.start h0
 refine AB ?_
 refine xv (Bv rfl rfl) ?_
 rintro _ hp ⟨p,rfl,hnew⟩
 have st:=st.new hnew
 refine AP ?_
 refine Am 8 rfl (fun h=> ?_) (fun h=> ?_)
 ·refine AB ?_
  refine xk (Ou (q:=fun x=>decide (x<0∨most<x)) (by kernel_rfl) (hr.ext st.low) hl hn (fun x _=>du x (st.cell 0 (i:=0) rfl rfl))) rfl ?_
  rintro _ _ ⟨rfl,rfl⟩
  refine xa (Bm rfl) ?_
  rw [OX]
  refine AJ ?_
  exact ⟨congrArg Value.bool (decide_eq_decide.2 ⟨fun hh=>⟨by omega,hh⟩,fun hh=>hh.2⟩),st.low⟩
 ·refine AP ?_
  exact ⟨congrArg Value.bool (zu (fun hh=>by have:=hh.1;omega)).symm,st.low⟩
theorem Qx {li:List Int} (h:∀x∈li,0≤x):(li.map Int.toNat).map (fun n:Nat=>(n:Int))=li:=by
 rw [List.map_map]
 conv=>rhs;rw [←List.map_id li]
 refine List.map_congr_left fun x hx=> ?_
 have:=h x hx
 simp only [Function.comp,id];omega
theorem gg {n c:Nat} {A:Option Addr} {li:List Int} {h0:AA} (hr:Rd h0 A (li.map iV)) (hl:li.length=n) (hb:Gl 15 li):
  AG Tryz.prog 301 [.slice A n c] h0 fun v h'=>v= .bool (decide (ES (li.map Int.toNat)=32768))∧AV h0 h':=by
 have hn:n≤320:=by rw [←hl];exact hb.1
 refine BE Tryz.func301 rfl fun _=>AP ?_
 refine xk (XD 15 hr hl (by omega)) rfl ?_
 rintro _ hp ⟨rfl,hx⟩
 rw [decide_eq_true hb]
 refine Bb ?_
 have st:=(St.start h0).ext hx
 refine BD (fun i=>n-i) (fun i=>[(9,.slice A n c),(10,.int .i64 (n:Int)),(11,.int .i64 (i:Int)),(3,.int .i64 ((ES ((li.map Int.toNat).take i):Nat):Int))])
  (fun (i:Nat) hp=>St h0.size h0 hp []∧i≤n∧ES ((li.map Int.toNat).take i)≤16384*i) 0 (Bt rfl rfl rfl rfl) ⟨st,by omega,by simp [ES]⟩ ?_
 clear st hx
 rintro i hp ⟨st,hi,hk⟩
 refine AH ?_
 refine AK rfl (fun h=> ?_) (fun h=> ?_)
 ·have hin:i<li.length:=by omega
  obtain ⟨gb,o,rfl,hc⟩:=(hr.ext st.low).at_ (by rw [z3];omega)
  have hci:=hc i (iV li[i]) (by simp [hin])
  have hbi:=hb.2 li[i] (List.getElem_mem hin)
  have htk:ES ((li.map Int.toNat).take (i+1))=ES ((li.map Int.toNat).take i)+Ft (li[i]).toNat:=by
   rw [List.take_succ_eq_append_getElem (by simpa using hin)];simp [ES]
  obtain ⟨x,hx⟩:∃x:Nat,li[i]=x:=⟨(li[i]).toNat,by omega⟩
  rw [hx]at hci hbi htk
  rw [Int.toNat_natCast]at htk
  have hu:Ft x≤16384:=by
   unfold Ft
   split
   ·omega
   ·exact zw (Nat.pow_le_pow_right (by omega) (show 15-x≤14 by omega)) (by decide)
  refine AL ?_
  refine xl (hci) rfl (AO ?_)
  refine AK rfl (fun h=> ?_) (fun h=> ?_)
  ·have hu1:Ft x=2^(15-x):=by unfold Ft;rw [if_neg (by omega)]
   have hp1:1≤2^(15-x):=Nat.pow_pos (by omega)
   refine AF ?_
   refine xa (Bk (m:=15) (n:=x) rfl rfl (by omega) (by simp only [AI];omega)) ?_
   refine xa (GT (m:=1) (15-x) rfl rfl (by simp only [IntKind.bits];omega) (by rw [Nat.one_mul,←hu1];simp only [AI];omega)) ?_
   rw [Nat.one_mul,←hu1]
   refine AP ?_
   exact Ad (i+1) (.cons rfl (.cons rfl (.cons rfl (.cons (by rw [htk];rfl) (.nil _))))) ⟨st,by omega,by rw [htk];omega⟩ (by omega)
  ·have hu0:Ft x=0:=by unfold Ft;rw [if_pos (by omega)]
   refine AL ?_
   exact Ad (i+1) (.cons rfl (.cons rfl (.cons rfl (.cons (by rw [htk,hu0];rfl) (.nil _))))) ⟨st,by omega,by rw [htk];omega⟩ (by omega)
 ·rw [za (by rw [z3];omega)]
  refine AP ?_
  exact ⟨congrArg Value.bool (decide_eq_decide.2 ⟨fun hh=>by omega,fun hh=>by omega⟩),st.low⟩
theorem ec {n c:Nat} {A:Option Addr} {li:List Int} {h0:AA} (hr:Rd h0 A (li.map iV)) (hl:li.length=n) (hb:Gl 15 li):
  AG Tryz.prog 302 [.slice A n c] h0 fun v h'=>v= .bool (decide ((li.map Int.toNat).sum=1))∧h0=h':=by
 have hn:n≤320:=by rw [←hl];exact hb.1
 refine BE Tryz.func302 rfl fun _=>Bb ?_
 refine BD (fun i=>n-i) (fun i=>[(6,.slice A n c),(7,.int .i64 (n:Int)),(8,.int .i64 (i:Int)),(3,.int .i64 ((((li.map Int.toNat).take i).sum:Nat):Int))])
  (fun (i:Nat) hp=>h0=hp∧i≤n∧((li.map Int.toNat).take i).sum≤15*i) 0 (Bt rfl rfl rfl rfl) ⟨rfl,by omega,by simp⟩ ?_
 rintro i hp ⟨rfl,hi,hk⟩
 refine AH ?_
 refine AK rfl (fun h=> ?_) (fun h=> ?_)
 ·have hin:i<li.length:=by omega
  obtain ⟨gb,o,rfl,hc⟩:=hr.at_ (by rw [z3];omega)
  have hci:=hc i (iV li[i]) (by simp [hin])
  have hbi:=hb.2 li[i] (List.getElem_mem hin)
  have htk:((li.map Int.toNat).take (i+1)).sum=((li.map Int.toNat).take i).sum+(li[i]).toNat:=by
   rw [List.take_succ_eq_append_getElem (by simpa using hin)];simp
  obtain ⟨x,hx⟩:∃x:Nat,li[i]=x:=⟨(li[i]).toNat,by omega⟩
  rw [hx]at hci hbi htk
  rw [Int.toNat_natCast]at htk
  refine AL ?_
  refine xl (hci) rfl (B3 ?_)
  exact Ad (i+1) (.cons rfl (.cons rfl (.cons rfl (.cons (by rw [htk];rfl) (.nil _))))) ⟨rfl,by omega,by rw [htk];omega⟩ (by omega)
 ·rw [za (by rw [z3];omega)]
  refine AP ?_
  exact ⟨congrArg Value.bool (decide_eq_decide.2 ⟨fun hh=>by omega,fun hh=>by omega⟩),rfl⟩
def D5 (li:List Int):Prop:=1≤li.length∧Gl 15 li∧(ES (li.map Int.toNat)=32768∨(li.map Int.toNat).sum=1)
instance (li:List Int):Decidable (D5 li):=by unfold D5;infer_instance
theorem D5.ok {li:List Int} (h:D5 li):Bi (li.map Int.toNat):=by
 refine ⟨by rw [z3];exact h.1,by rw [z3];exact h.2.1.1,fun x hx=> ?_,h.2.2⟩
 obtain ⟨y,hy,rfl⟩:=List.mem_map.1 hx
 have:=h.2.1.2 y hy;omega
theorem Y9 {n c:Nat} {A:Option Addr} {li:List Int} {h0:AA} (hr:Rd h0 A (li.map iV)) (hl:li.length=n) (hn:n≤17592186044416):
  AG Tryz.prog 267 [.slice A n c] h0 fun v h'=>v= .bool (decide (D5 li))∧AV h0 h':=by
 refine BE Tryz.func267 rfl fun _=>Bu ?_
 refine Am 6 rfl (fun h=> ?_) (fun h=> ?_)
 ·refine Cp ?_
  exact ⟨congrArg Value.bool (zu (fun hh=>by have:=hh.1;omega)).symm,AV.refl _⟩
 ·refine AH ?_
  refine Am 11 rfl (fun h=> ?_) (fun h=> ?_)
  ·refine BP ?_
   exact ⟨congrArg Value.bool (zu (fun hh=>by have:=hh.2.1.1;omega)).symm,AV.refl _⟩
  ·refine AC ?_
   refine xk (Ou (q:=fun x=>decide (x<0∨15<x)) (caps:= #[]) (by kernel_rfl) hr hl hn (fun x _=>dq x _)) rfl ?_
   rintro _ _ ⟨rfl,rfl⟩
   have hany:=OX 15 li
   refine AB ?_
   refine C6 rfl (fun h=> ?_) (fun h=> ?_)
   ·refine AH ?_
    refine ⟨congrArg Value.bool (zu (fun hh=> ?_)).symm,AV.refl _⟩
    rw [h]at hany
    have h9:=hh.2.1.2
    rw [decide_eq_true h9]at hany;cases hany
   ·have hb:Gl 15 li:=by
     rw [h]at hany
     exact ⟨by omega,of_decide_eq_true hany.symm⟩
    refine AJ ?_
    refine xk (gg hr hl hb) rfl ?_
    rintro _ hp ⟨rfl,hx⟩
    refine AC ?_
    refine Am 17 rfl (fun h=> ?_) (fun h=> ?_)
    ·refine AL ?_
     exact ⟨congrArg Value.bool (decide_eq_true ⟨by omega,hb,.inl h⟩).symm,hx⟩
    ·refine AC ?_
     refine xk (ec (hr.ext hx) hl hb) rfl ?_
     rintro _ _ ⟨rfl,rfl⟩
     refine AJ ?_
     exact ⟨congrArg Value.bool (decide_eq_decide.2 ⟨fun hh=>⟨by omega,hb,.inr hh⟩,fun hh=>hh.2.2.resolve_left h⟩),hx⟩
end Go.Bn
end

section
namespace Go.Bn
open Go
def N8 (cs : CF) (ops : Array Oper) (b : Array Nat) (fin : Array Bool → Bool) : List Nat → Array Bool → Bool
  | [], listed => fin listed
  | k :: rest, listed => (match ops[k]? with
      | none => false
      | some ok => match cs k ok with
        | .pure | .load => (Region.ready .any ops listed).contains k && Kc cs ops b listed k
        | _ => Region.ready .any ops listed == [k]) && N8 cs ops b fin rest (listed.setIfInBounds k true)
def Qe (cs:CF) (ops:Array Oper) (pre:List Nat) (x1:Nat) (r1:List Nat) (x2:Nat) (r2:List Nat):Bool:=
  Region.noSelect ops&&J8 (Region.before ops) ops&&Nat.beq (pre.length+(r1.length+1)) ops.size&&Nat.beq r1.length r2.length&&
  N8 cs ops (Region.before ops) (fun listed=>Region.ready .any ops listed==[x1,x2]&&Ju cs ops (Region.before ops) r1 (listed.setIfInBounds x1 true)&&Ju cs ops (Region.before ops) r2 (listed.setIfInBounds x2 true))
    pre (Array.replicate ops.size false)
theorem QT {S:Exit→Act→World→Prop} (hIn:∀e a d v w,S e (Act.put a d v) w→S e a w) {cs:CF} {P:Program} {ops:Array Oper} {N N':Act→World→Prop} {b:Array Nat} {m:Nat} {fin:Array Bool→Bool} (hs:Region.noSelect ops=true) (hbk:J8 b ops=true)
  (hf:∀ (listed:Array Bool) (a:Act) (w:World),Hq ops listed→fin listed=true→N' a w→Fc cs P S ops N m listed a w):
  ∀ (ord:List Nat) (listed:Array Bool) (a:Act) (w:World),Hq ops listed→N8 cs ops b fin ord listed=true→GD cs P S ops N' ord a w→Fc cs P S ops N (ord.length+m) listed a w
 | [],listed,a,w,hc,hB,h=>by rw [zk,Nat.zero_add];exact hf listed a w hc hB h
 | k::rest,listed,a,w,hc,hB,h=>by
  rw [show (k::rest).length+m=(rest.length+m)+1 by simp;omega]
  simp only [N8,Bool.and_eq_true]at hB
  obtain ⟨h1,h2⟩:=hB
  have h0:stepI cs P S ops k a w (GD cs P S ops N' rest):=h
  obtain ⟨ok,hok,_⟩:=id h0
  have quiet:(cs k ok= .pure∨cs k ok= .load)→(Region.ready .any ops listed).contains k=true→Kc cs ops b listed k=true→Fc cs P S ops N (rest.length+m+1) listed a w:=by
   intro hcl hr hq
   have hrk:k∈Region.ready .any ops listed:=by simpa using hr
   have hklt:=(Array.getElem?_eq_some_iff.1 hok).1
   obtain ⟨v,hy,hk⟩:=TC hok hcl h0
   refine Rf hIn hok (Region.noSelect_spec hs) (fun l=>Hq ops l∧∀j,listed.getD j true=true→l.getD j true=true) ?_ ?_ (rest.length+m) listed a w ⟨hc,fun _ h=>h⟩ hrk hy
    (QT hIn hs hbk hf rest _ _ _ (hc.set hrk) h2 hk)
   ·intro l j ⟨hcl',hmono⟩ hj hne hun
    refine ⟨hcl'.set hj,fun i hi=> ?_⟩
    by_cases hji:j=i
    ·subst hji
     have hlt:j<l.size:=by
      rcases Nat.lt_or_ge j l.size with h | h
      ·exact h
      ·exact absurd (mem_ready.1 hj).1 (by simp [Array.getElem?_eq_none h])
     simp [hlt]
    ·rw [getD_set_ne true hji];exact hmono i hi
   ·intro l j oj ⟨hcl',hmono⟩ hoj hj hne hun
    have hjlt:=(Array.getElem?_eq_some_iff.1 hoj).1
    obtain ⟨hjun,oj',hoj',hall⟩:=mem_ready.1 hj
    obtain rfl:oj'=oj:=Option.some.inj (hoj'.symm.trans hoj)
    unfold Kc at hq
    simp only [hok]at hq
    have h3:=List.all_eq_true.1 hq j (List.mem_range.2 hjlt)
    have hnl:listed.getD j true=false:=by
     cases hl:listed.getD j true with
     | false=>rfl
     | true=>rw [hmono j hl]at hjun;cases hjun
    simp only [hnl,hoj,Bool.or_false,Bool.or_eq_true,Bool.and_eq_true]at h3
    rcases h3 with (h3 | h3) | h3
    ·exact absurd (Nat.eq_of_beq_eq_true h3) hne
    ·exfalso
     obtain ⟨e,he,hbi,hlt,hor⟩:=Ob hbk hoj hklt h3
     have hle:=hall e he hbi
     rcases hor with rfl | hb'
     ·exact Pp hun hle
     ·exact SA hbk hcl' hklt hun e.on hle hb' (by omega)
    ·have h4:=h3
     refine ⟨h4.1,fun hl hw=> ?_⟩
     have h5:=h4.2
     rw [hl,hw]at h5
     cases h5
  have loud:Region.ready .any ops listed=[k]→Fc cs P S ops N (rest.length+m+1) listed a w:=by
   intro hr
   refine ⟨fun h=>(by rw [hr]at h;cases h),fun i hi=> ?_⟩
   rw [hr]at hi
   obtain rfl:i=k:=by simpa using hi
   exact h0.mono fun a' w' h'=>QT hIn hs hbk hf rest _ _ _ (hc.set (by rw [hr];simp)) h2 h'
  simp only [hok]at h1
  generalize hcl:cs k ok=cl at h1
  cases cl with
  | pure=>simp only [Bool.and_eq_true]at h1;exact quiet (.inl hcl) h1.1 h1.2
  | load=>simp only [Bool.and_eq_true]at h1;exact quiet (.inr hcl) h1.1 h1.2
  | grow=>exact loud (by simpa using h1)
  | wild=>exact loud (by simpa using h1)
theorem gm {r:Option Nat} {P:Program} {id:Nat} {ops:Array Oper} {Q S:Exit→Act→World→Prop} (hS:∀e a w,S e a w→Q e a w) (hIn:∀e a d v w,S e (Act.put a d v) w→S e a w) {a:Act} {w:World} (cs:CF) (pre:List Nat) (x1:Nat) (r1:List Nat) (x2:Nat) (r2:List Nat)
  (hD:r=none∨Hm ops=true) (hm:P.follows .mixedOrders=true) (hB:Qe cs ops pre x1 r1 x2 r2=true)
  (h:GD cs P S ops (fun a w=>GD cs P S ops (Q .normal) (x1::r1) a w∧GD cs P S ops (Q .normal) (x2::r2) a w) pre a {w with drawn:=w.drawn+1}):(Code.region id ops true).wpIn (Dw r) 0 P Q a w:=by
 simp only [Qe,Bool.and_eq_true]at hB
 obtain ⟨⟨⟨⟨hs,hb⟩,hl⟩,hl2⟩,hsch⟩:=hB
 refine wpIn_region_any hm (Fc.wpAny (cs:=cs) hS hD _ _ _ _ ?_)
 have key:=QT (N:=Q .normal) (m:=r1.length+1) hIn hs hb ?_ pre (Array.replicate ops.size false) a {w with drawn:=w.drawn+1} (fun j oj _ hl'=>absurd hl' (by
  rw [TA];exact Bool.false_ne_true)) hsch h
 ·rw [Nat.eq_of_beq_eq_true hl]at key
  exact key
 ·intro listed a w hc hf hN
  simp only [Bool.and_eq_true]at hf
  obtain ⟨⟨hr,hs1⟩,hs2⟩:=hf
  have hr:Region.ready .any ops listed=[x1,x2]:=by simpa using hr
  refine ⟨fun h=>(by rw [hr]at h;cases h),fun i hi=> ?_⟩
  rw [hr]at hi
  rcases List.mem_cons.1 hi with rfl | hi'
  ·exact stepI.mono (fun a' w' h'=>MF hIn hs hb r1 _ _ _ (hc.set (by rw [hr];simp)) hs1 h') hN.1
  ·obtain rfl:i=x2:=by simpa using hi'
   have:=stepI.mono (fun a' w' h'=>MF hIn hs hb r2 _ _ _ (hc.set (by rw [hr];simp)) hs2 h') hN.2
   rw [←Nat.eq_of_beq_eq_true hl2]at this
   exact this
theorem MG {S:Exit→Act→World→Prop} {cs:CF} {P:Program} {ops:Array Oper} {N N':Act→World→Prop} (hm:∀a w,N a w→N' a w):∀ (l:List (Nat×Oper)) (a:Act) (w:World),Fn cs P S ops N l a w→Fn cs P S ops N' l a w
 | [],a,w,h=>hm a w h
 | (i,o)::rest,a,w,h=>by
  simp only [Fn]at h ⊢
  split
  ·rename_i hw;rw [if_pos hw]at h;exact h.mono (MG hm rest)
  ·rename_i hw;rw [if_neg hw]at h;exact MG hm rest _ _ h
def J3 (c:Cx) {σ:Type} (EI:σ→Au) (HI:σ→AA→Prop) (a:Act) (w:World):Prop:=∃s,(OK c.fn.ntmps (EI s) a∧a.defers=c.D)∧B8 c.w0 w∧HI s w.heap
def Kr (c:Cx) (cs:CF) (ops:Array Oper) (l1 l2:List (Nat×Oper)) (k:List DW) (a:Act) (w:World):Prop:=Fn cs c.P (PQ c k) ops (SQ c k .normal) l1 a w∧Fn cs c.P (PQ c k) ops (SQ c k .normal) l2 a w
variable {c:Cx} {k:List DW} {E:Au} {hp:AA}
theorem RN (J:Act→World→Prop):PQ c (.inv J::k)=PQ c k:=by
 funext e a w;cases e <;> rfl
attribute [local semireducible] X XR in
theorem HV {id:Nat} {l:List Oper} (cs:CF) (pre:List Nat) (x1:Nat) (r1:List Nat) (x2:Nat) (r2:List Nat) {lp l1 l2:List (Nat×Oper)} (hm:c.P.follows .mixedOrders=true)
  (hB:Qe cs l.toArray pre x1 r1 x2 r2=true) (hl:pick l pre=some lp) (hl1:pick l (x1::r1)=some l1) (hl2:pick l (x2::r2)=some l2)
  (h:XR c cs l.toArray lp (.inv (Kr c cs l.toArray l1 l2 k)::k) E hp) (hD0:c.r=none∨Jb l=true:=by first | exact .inl rfl | exact .inr rfl) (hE0:c.pd=true:=by rfl):X c (.code (.region id l.toArray true)::k) E hp:=by
 intro a w ho hi hw
 have hD:=hD0.imp (fun hh=>hh) LY
 refine gm MW (OS hE0) cs pre x1 r1 x2 r2 hD hm hB ?_
 obtain ⟨h1,h2⟩:=MC hl
 obtain ⟨h11,h12⟩:=MC hl1
 obtain ⟨h21,h22⟩:=MC hl2
 have h0:=h a {w with drawn:=w.drawn+1} ho ⟨hi.os,hi.tape,hi.output⟩ hw
 rw [RN]at h0
 have hN:∀ (a:Act) (w:World),SQ c (.inv (Kr c cs l.toArray l1 l2 k)::k) .normal a w→(GD cs c.P (PQ c k) l.toArray (SQ c k .normal) (x1::r1) a w∧GD cs c.P (PQ c k) l.toArray (SQ c k .normal) (x2::r2) a w):=by
  intro a w hx
  have hx:Kr c cs l.toArray l1 l2 k a w:=hx
  refine ⟨?_,?_⟩
  ·have:=Jp _ (fun p hp=>by simpa using h12 p hp) a w hx.1
   rwa [h11]at this
  ·have:=Jp _ (fun p hp=>by simpa using h22 p hp) a w hx.2
   rwa [h21]at this
 have:=Jp _ (fun p hp=>by simpa using h2 p hp) a {w with drawn:=w.drawn+1} (MG hN _ _ _ h0)
 rwa [h1]at this
attribute [local semireducible] X XR in
theorem HT {σ:Type} (EI:σ→Au) (HI:σ→AA→Prop) {cs:CF} {ops:Array Oper} {l1 l2:List (Nat×Oper)} (h1:XR c cs ops l1 (.inv (J3 c EI HI)::k) E hp) (h2:XR c cs ops l2 (.inv (J3 c EI HI)::k) E hp)
  (hk:∀s hp,HI s hp→X c k (EI s) hp):X c (.inv (Kr c cs ops l1 l2 k)::k) E hp:=by
 intro a w ho hi hw
 have hN:∀ (a:Act) (w:World),SQ c (.inv (J3 c EI HI)::k) .normal a w→SQ c k .normal a w:=by
  rintro a w ⟨s,ho,hi,hh⟩
  exact hk s _ hh a w ho hi rfl
 have e1:=h1 a w ho hi hw
 have e2:=h2 a w ho hi hw
 rw [RN]at e1 e2
 exact ⟨MG hN _ _ _ e1,MG hN _ _ _ e2⟩
attribute [local semireducible] X XR in
theorem C7 {σ:Type} {EI:σ→Au} {HI:σ→AA→Prop} (s:σ) (hE:Dc (EI s) E) (h:HI s hp):X c (.inv (J3 c EI HI)::k) E hp:=fun _ _ ho hi hw=>⟨s,⟨ho.1.sub hE,ho.2⟩,hi,by rw [hw];exact h⟩
theorem XQ {k':List DW} (hn:∀a w,SQ c k' .normal a w→SQ c k .normal a w) (he:∀e a w,e≠ .normal→SQ c k' e a w→SQ c k e a w) (x:Code) (a:Act) (w:World) (h:SQ c (.code x::k') .normal a w):SQ c (.code x::k) .normal a w:=by
 have h:x.wpIn (Dw c.r) 0 c.P (SQ c k') a w:=h
 show x.wpIn (Dw c.r) 0 c.P (SQ c k) a w
 refine wpIn_mono h (fun e a w hx=> ?_)
 by_cases hh:e= .normal
 ·subst hh;exact hn a w hx
 ·exact he e a w hh hx
attribute [local semireducible] X XR in
theorem Ma {σ:Type} (EI:σ→Au) (HI:σ→AA→Prop) {x:Code} (h:X c (.code x:: .inv (J3 c EI HI)::k) E hp) (hk:∀s hp,HI s hp→X c k (EI s) hp):X c (.code x::k) E hp:=by
 intro a w ho hi hw
 refine XQ ?_ ?_ x a w (h a w ho hi hw)
 ·rintro a w ⟨s,ho,hi,hh⟩
  exact hk s _ hh a w ho hi rfl
 ·intro e a w hn hx
  cases e <;> first | exact hx | exact absurd rfl hn
attribute [irreducible] J3 Kr
theorem MY:∀ (k:List DW) (l:Nat) (a:Act) (w:World),SQ c k (.goto l) a w→c.B (.goto l) a w
 | [],_,_,_,h=>h
 | .code _::k,l,a,w,h=>MY k l a w h
 | .blk _::k,l,a,w,h=>MY k l a w h
 | .inv _::k,l,a,w,h=>MY k l a w h
attribute [local semireducible] X in
theorem Hx {x:Code} (hr:c.r=none) (hB:∀l a w,¬c.B (.goto l) a w) (h:X c (.code x::k) E hp):X c (.code (.scope x)::k) E hp:=by
 intro a w ho hi hw
 have h1:x.wpIn (Dw c.r) 0 c.P (SQ c k) a w:=h a w ho hi hw
 show (Code.scope x).wpIn (Dw c.r) 0 c.P (SQ c k) a w
 rw [hr,gc,wpIn_wide]at h1 ⊢
 refine wp_scope_straight (wp_mono h1 ?_)
 intro e a w hx
 cases e with
 | goto l=>exact hB l a w (MY k l a w hx)
 | _=>exact hx
end Go.Bn
end

section
namespace Go.Bn
open Go Proofs
def DM (a b o:Value) (f m:List Value):List Value:=a::b::(f++(m++[o]))
theorem Mr {a b o:Value} {f m:List Value} (hf:f.length=16) (hm:m.length=16):(DM a b o f m).length=35:=by simp [DM,hf,hm]
theorem Oq {a b o:Value} {f m:List Value} {x:Nat} (h:x<f.length):(DM a b o f m)[2+x]? =f[x]? :=by
 simp only [DM,Nat.add_comm 2 x,List.getElem?_cons_succ]
 rw [zi h]
theorem JF {a b o:Value} {f m:List Value} {x:Nat} (hf:f.length=16) (h:x<m.length):(DM a b o f m)[18+x]? =m[x]? :=by
 rw [show 18+x=(16+x)+2 by omega]
 simp only [DM,List.getElem?_cons_succ]
 rw [zh (by omega),hf,Nat.add_sub_cancel_left,zi h]
theorem SD {a b o:Value} {f m:List Value} (hf:f.length=16) (hm:m.length=16):(DM a b o f m)[34]? =some o:=by
 simp only [DM,List.getElem?_cons_succ]
 rw [zh (by omega),hf,zh (by omega),hm];rfl
theorem Yq {a b o v:Value} {f m:List Value} {x:Nat} (h:x<f.length):(DM a b o f m).set (2+x) v=DM a b o (f.set x v) m:=by
 simp only [DM,Nat.add_comm 2 x,z1]
 rw [List.set_append_left _ _ h]
theorem SE {a b o v:Value} {f m:List Value} {x:Nat} (hf:f.length=16) (h:x<m.length):(DM a b o f m).set (18+x) v=DM a b o f (m.set x v):=by
 rw [show 18+x=(16+x)+2 by omega]
 simp only [DM,z1]
 rw [List.set_append_right _ _ (by omega),hf,Nat.add_sub_cancel_left,List.set_append_left _ _ h]
theorem Yr {a b o v:Value} {f m:List Value} (hf:f.length=16) (hm:m.length=16):(DM a b o f m).set 34 v=DM a b v f m:=by
 simp only [DM,z1]
 rw [List.set_append_right _ _ (by omega),hf,List.set_append_right _ _ (by omega),hm];rfl
theorem HK (l:List Nat) (i x:Nat):(l.map nV).set i (nV x)=(l.set i x).map nV:=by rw [List.map_set]
theorem F4 {l:List Nat} {i x:Nat} (h:l[i]? =some x):(l.map nV)[i]? =some (nV x):=by rw [zr,h];rfl
@[reducible] def Ys (p:Nat) (a b o:Value) (ls:List Nat):AE:=
  CD (pt p 328 (DM a b o ((EQ ls 16).map nV) ((E7 ls).map nV))) (CD (row 3 1 a (ls.map nV)) (CD (row 3 1 b ((I2 ls).map nV)) (row 3 1 o ((Ds ls 16).map nV))))
def CO (p:Nat) (ls:List Nat):AE:=Cb fun (v:Value×Value×Value)=>Ys p v.1 v.2.1 v.2.2 ls
theorem VH {a b c d:AE} {F:List AE}:(c::d::b::a::F).Perm (a::b::c::d::F):=by
 have h1:([c,d,b]++a::F).Perm (a::([c,d,b]++F)):=List.perm_middle
 have h2:([c,d]++b::F).Perm (b::([c,d]++F)):=List.perm_middle
 exact h1.trans (List.Perm.cons _ h2)
theorem St.code {B p:Nat} {ls:List Nat} {F:List AE} {h0 hp:AA} (st:St B h0 hp (CO p ls::F)):∃a b o,St B h0 hp (pt p 328 (DM a b o ((EQ ls 16).map nV) ((E7 ls).map nV))::Bn.row 3 1 a (ls.map nV)::Bn.row 3 1 b ((I2 ls).map nV)::Bn.row 3 1 o ((Ds ls 16).map nV)::F):=by
 obtain ⟨⟨a,b,o⟩,st⟩:=St.ex.1 st
 have s1:=St.star.1 ((St.star.1 st).perm (List.Perm.swap _ _ _))
 have s2:=St.star.1 (s1.perm (List.Perm.swap _ _ _))
 exact ⟨a,b,o,s2.perm VH⟩
theorem St.uncode {B p:Nat} {ls:List Nat} {F:List AE} {h0 hp:AA} {a b o:Value} (st:St B h0 hp (pt p 328 (DM a b o ((EQ ls 16).map nV) ((E7 ls).map nV))::Bn.row 3 1 a (ls.map nV)::Bn.row 3 1 b ((I2 ls).map nV)::Bn.row 3 1 o ((Ds ls 16).map nV)::F)):St B h0 hp (CO p ls::F):=by
 have s2:=St.star.2 (st.perm VH.symm)
 have s1:=St.star.2 (s2.perm (List.Perm.swap _ _ _))
 exact St.ex.2 ⟨(a,b,o),St.star.2 (s1.perm (List.Perm.swap _ _ _))⟩
theorem On {n c:Nat} {A:Addr} {vs:List Int} {h0:AA} (hr:Rd h0 (some A) (vs.map iV)) (hl:vs.length=n) (hn:n≤17592186044416):
  AG Tryz.prog 92 [.slice (some A) n c] h0 fun v h'=>St h0.size h0 h' [row 3 1 v (vs.map iV)]:=by
 refine BE Tryz.func92 rfl fun _=> ?_
 have st:=St.start h0
 refine Bq ?_
 refine xv (Ji rfl) ?_
 rintro v hp hnew
 replace st:=st.new hnew
 refine AC ?_
 refine BN (BY st 0 rfl (hr.ext st.low) (by simpa using hl) (Ps _) (by simp;omega) rfl rfl rfl rfl rfl rfl rfl) rfl rfl rfl fun v hp st=> ?_
 simp only [z0,z1]at st
 refine AF ?_
 rw [z4]at st
 exact st
theorem Ec (ls:List Nat) (n:Nat):((EQ ls n).map nV).length=16:=by simp [EQ]
theorem LB (ls:List Nat) (n:Nat):((Eu ls n).map nV).length=16:=by simp [Eu]
theorem HC (ls:List Nat):((E7 ls).map nV).length=16:=by simp [E7]
theorem iI (ls:List Nat):List.replicate 16 (iV 0)=(EQ ls 1).map nV:=by rw [Zp,List.map_replicate];rfl
theorem iH (ls:List Nat):List.replicate 16 (iV 0)=(Eu ls 0).map nV:=by rw [Yp,List.map_replicate];rfl
theorem iJ (ls:List Nat):List.replicate ls.length (iV 0)=((List.range ls.length).map (Ej ls 1 0)).map nV:=by rw [gG,List.map_replicate];rfl
theorem YZ {n c:Nat} {A:Option Addr} {ls:List Nat} {h0:AA} (hr:Rd h0 A (ls.map nV)) (hl:ls.length=n) (hok:Bi ls):
  AG Tryz.prog 268 [.slice A n c] h0 fun v h'=>∃p,v= .pointer (some ⟨p,0,none⟩)∧St h0.size h0 h' [CO p ls]:=by
 obtain ⟨gA,oA,rfl,hcA⟩:=hr.at_ (by rw [z3];have:=hok.1;omega)
 have hn:n≤320:=by rw [←hl];exact hok.2.1
 have hn1:1≤n:=by rw [←hl];exact hok.1
 refine BE Tryz.func268 rfl fun _=> ?_
 have st:=St.start h0
 refine AH ?_
 refine HV (Ck [(1,.grow)]) [0,2,3] 1 [4,5,6,7] 4 [1,5,6,7] (by kernel_rfl) (by kernel_rfl) rfl rfl rfl (AJ ?_)
 refine HT (σ:=Nat×Value×Value) (fun s=>[(0,.slice (some ⟨gA,oA,none⟩) n c),(3,.pointer (some ⟨s.1,0,none⟩))])
  (fun s hp=>St h0.size h0 hp [pt s.1 328 (DM s.2.1 s.2.2 (.slice none 0 0) (List.replicate 16 (iV 0)) (List.replicate 16 (iV 0))),row 3 1 s.2.1 (ls.map nV),row 3 1 s.2.2 (List.replicate n (iV 0))]) ?_ ?_ ?_
 ·refine BW (CT (On (vs:=ls.map fun n:Nat=>(n:Int)) (by rw [←Hl];exact hr.ext st.low) (by simpa using hl) (by omega)) rfl (by kernel_rfl)) rfl rfl rfl (fun _ _ h=>h.low) ?_
  rintro v1 hp st1
  replace st:=st.join st1
  simp only [z5,z4]at st
  rw [←Hl]at st
  refine BW (GA (by omega) rfl rfl rfl) rfl rfl rfl (fun _ _ e=>e.1) ?_
  rintro v hp hnew
  have st:=st.new hnew
  obtain ⟨ga,na,ca,rfl,_,_,_,_⟩:=st.row0 1 rfl (by rw [z3];omega)
  obtain ⟨gb,nb,cb,rfl,hlb,_,_,_⟩:=st.row0 0 rfl (by rw [zg];omega)
  refine xa (AZ (ps:=[(0,.slice (some ⟨ga,0,none⟩) na ca),(1,.slice (some ⟨gb,0,none⟩) nb cb)]) (cs:=(DM (.slice (some ⟨ga,0,none⟩) na ca) (.slice (some ⟨gb,0,none⟩) nb cb) (.slice none 0 0) (List.replicate 16 (iV 0)) (List.replicate 16 (iV 0))).toArray) rfl rfl) ?_
  refine BW (Bv rfl rfl) rfl rfl rfl (fun _ _ ⟨_,_,e⟩=>e.1) ?_
  rintro _ hp ⟨p,rfl,hnew⟩
  have st:=st.new hnew
  refine AB ?_
  replace st:=st.re 3 [0,2,1] (by decide)
  exact C7 (p,(.slice (some ⟨ga,0,none⟩) na ca),(.slice (some ⟨gb,0,none⟩) nb cb)) (Cu rfl rfl) st
 ·refine BW (GA (by omega) rfl rfl rfl) rfl rfl rfl (fun _ _ e=>e.1) ?_
  rintro v hp hnew
  have st:=st.new hnew
  refine BW (CT (On (vs:=ls.map fun n:Nat=>(n:Int)) (by rw [←Hl];exact hr.ext st.low) (by simpa using hl) (by omega)) rfl (by kernel_rfl)) rfl rfl rfl (fun _ _ h=>h.low) ?_
  rintro v1 hp st1
  replace st:=st.join st1
  simp only [z5,z4]at st
  rw [←Hl]at st
  obtain ⟨ga,na,ca,rfl,_,_,_,_⟩:=st.row0 0 rfl (by rw [z3];omega)
  obtain ⟨gb,nb,cb,rfl,hlb,_,_,_⟩:=st.row0 1 rfl (by rw [zg];omega)
  refine xa (AZ (ps:=[(0,.slice (some ⟨ga,0,none⟩) na ca),(1,.slice (some ⟨gb,0,none⟩) nb cb)]) (cs:=(DM (.slice (some ⟨ga,0,none⟩) na ca) (.slice (some ⟨gb,0,none⟩) nb cb) (.slice none 0 0) (List.replicate 16 (iV 0)) (List.replicate 16 (iV 0))).toArray) rfl rfl) ?_
  refine BW (Bv rfl rfl) rfl rfl rfl (fun _ _ ⟨_,_,e⟩=>e.1) ?_
  rintro _ hp ⟨p,rfl,hnew⟩
  have st:=st.new hnew
  refine AB ?_
  exact C7 (p,(.slice (some ⟨ga,0,none⟩) na ca),(.slice (some ⟨gb,0,none⟩) nb cb)) (Cu rfl rfl) st
 rintro ⟨p,va,vb⟩ hp st
 simp only at st ⊢
 obtain ⟨ga,na,ca,rfl,_,_,_,_⟩:=st.row0 1 rfl (by rw [z3];omega)
 obtain ⟨gb,nb,cb,rfl,hlb,_,_,_⟩:=st.row0 2 rfl (by rw [zg];omega)
 obtain rfl:nb=n:=by rw [zg]at hlb;omega
 refine AP ?_
 have st:=st.nilrow 3 1
 replace st:=st.re 4 [1,2,3,0] (by decide)
 simp only [zj,List.map_nil,An]at st
 rw [show List.replicate nb (iV 0)=List.replicate ls.length (iV 0) by rw [hl],iJ]at st
 have hcell:∀x:Value×Value,DM x.1 x.2 (.slice none 0 0) (List.replicate 16 (iV 0)) (List.replicate 16 (iV 0))=DM x.1 x.2 (.slice none 0 0) ((EQ ls 1).map nV) ((Eu ls 0).map nV):=fun x=>by rw [←iI,←iH]
 have hcell:=hcell (.slice (some ⟨ga,0,none⟩) na ca,.slice (some ⟨gb,0,none⟩) nb cb)
 simp only at hcell
 rw [hcell]at st
 refine BD (fun i=>nb-i) (fun i=>[(0,.slice (some ⟨gA,oA,none⟩) nb c),(3,.pointer (some ⟨p,0,none⟩)),(18,.slice (some ⟨gA,oA,none⟩) nb c),(19,.int .i64 (nb:Int)),(20,.int .i64 (i:Int))])
  (fun (i:Nat) hp=>St h0.size h0 hp [pt p 328 (DM (.slice (some ⟨ga,0,none⟩) na ca) (.slice (some ⟨gb,0,none⟩) nb cb) (.slice none 0 0) ((EQ ls 1).map nV) ((Eu ls i).map nV)),row 3 1 (.slice (some ⟨ga,0,none⟩) na ca) (ls.map nV),row 3 1 (.slice (some ⟨gb,0,none⟩) nb cb) (((List.range ls.length).map (Ej ls 1 0)).map nV),row 3 1 (.slice none 0 0) []]∧i≤nb)
  0 (CP rfl rfl rfl rfl rfl) ⟨st,by omega⟩ ?_
 clear st hcell hlb
 rintro i hp ⟨st,hi⟩
 refine AH ?_
 refine AK rfl (fun h=> ?_) (fun h=> ?_)
 ·have hin:i<ls.length:=by omega
  have hci:=hcA i (nV ls[i]) (by simp [hin])
  have hx15:=hok.2.2.1 ls[i] (List.getElem_mem hin)
  obtain ⟨x,hx⟩:∃x,ls[i]=x:=⟨_,rfl⟩
  rw [hx]at hci hx15
  have hcx:(Eu ls i)[x]? =some ((ls.take i).count x):=by simp [Eu,show x<16 by omega]
  have hcle:(ls.take i).count x≤320:=zw List.count_le_length (by rw [z6];omega)
  refine AL ?_
  refine xl ((Bz (a:=⟨gA,oA+i,none⟩) st.low hci)) rfl (AO ?_)
  first | refine AD (F6 rfl rfl rfl (by omega)) rfl rfl ?_ | refine AD (Fk rfl rfl rfl (by omega)) rfl rfl ?_ | refine AD (FQ rfl rfl rfl (by omega)) rfl rfl ?_
  refine xl (st.cell 0 (i:=18+x) rfl ((JF (Ec _ _) (by rw [LB];omega)).trans (F4 hcx))) rfl (AF ?_)
  first | refine AD (F6 rfl rfl rfl (by omega)) rfl rfl ?_ | refine AD (Fk rfl rfl rfl (by omega)) rfl rfl ?_ | refine AD (FQ rfl rfl rfl (by omega)) rfl rfl ?_
  refine BT (FE (i:=18+x) (v:=nV ((ls.take i).count x+1)) st 0 rfl rfl rfl (by rw [Mr (Ec _ _) (LB _ _)];simp [Nat.blt_eq];omega) rfl rfl) rfl rfl fun _ hp st=> ?_
  simp only [z0,z1]at st
  rw [SE (Ec _ _) (by rw [LB];omega),HK,Yo hin hx]at st
  refine AL ?_
  exact Ad (i+1) (CP rfl rfl rfl rfl rfl) ⟨st,by omega⟩ (by omega)
 ·obtain rfl:i=nb:=by omega
  refine AL ?_
  refine xa (Fk (i:=0) rfl rfl rfl (by omega)) ?_
  refine BT (FE (i:=18+0) (v:=nV 0) st 0 rfl rfl rfl (by rw [Mr (Ec _ _) (LB _ _)];rfl) rfl rfl) rfl rfl fun _ hp st=> ?_
  simp only [z0,z1]at st
  have hcf:(Eu ls i).set 0 0=E7 ls:=by rw [←hl];exact Yn ls
  rw [SE (Ec _ _) (by rw [LB];omega),HK,hcf]at st
  refine Bu ?_
  refine BD (fun s=>16-s.1) (fun s=>[(0,.slice (some ⟨gA,oA,none⟩) i c),(3,.pointer (some ⟨p,0,none⟩)),(6,.int .i64 ((fst ls (s.1-1):Nat):Int)),(7,.int .i64 (s.1:Int))])
   (fun (s:Nat×Value) hp=>St h0.size h0 hp [pt p 328 (DM (.slice (some ⟨ga,0,none⟩) na ca) (.slice (some ⟨gb,0,none⟩) i cb) s.2 ((EQ ls s.1).map nV) ((E7 ls).map nV)),row 3 1 (.slice (some ⟨ga,0,none⟩) na ca) (ls.map nV),row 3 1 (.slice (some ⟨gb,0,none⟩) i cb) (((List.range ls.length).map (Ej ls s.1 0)).map nV),row 3 1 s.2 ((Ds ls s.1).map nV)]∧1≤s.1∧s.1≤16)
   (1,.slice none 0 0) (Bt rfl rfl rfl rfl) ⟨st,by simp,by simp⟩ ?_
  clear st
  rintro ⟨m,o⟩ hp ⟨st,hm1,hm16⟩
  simp only at st hm1 hm16 ⊢
  refine AL ?_
  refine AK rfl (fun h=> ?_) (fun h=> ?_)
  ·have hm15:m≤15:=by omega
   have hfb:=LJ hok (n:=m-1) (by omega)
   have hfm:fst ls m=(fst ls (m-1)+cn ls (m-1))*2:=by
    obtain ⟨k,rfl⟩:∃k,m=k+1:=⟨m-1,by omega⟩
    rfl
   have hfbm:=LJ hok hm15
   have hgm:(E7 ls)[m-1]? =some (cn ls (m-1)):=by simp [E7,show m-1<16 by omega]
   refine AP ?_
   refine xa (Bk (m:=m) (n:=1) rfl rfl (by omega) (by simp only [AI];omega)) (AB ?_)
   first | refine AD (F6 rfl rfl rfl (by omega)) rfl rfl ?_ | refine AD (Fk rfl rfl rfl (by omega)) rfl rfl ?_ | refine AD (FQ rfl rfl rfl (by omega)) rfl rfl ?_
   refine xl (st.cell 0 (i:=18+(m-1)) rfl ((JF (Ec _ _) (by rw [HC];omega)).trans (F4 hgm))) rfl (AC ?_)
   first | refine AD (D0 (n:=2) rfl rfl (by simp only [AI];omega)) rfl rfl ?_ | refine AD (F8 rfl rfl (by simp only [AI];omega)) rfl rfl ?_ | refine AD (F7 rfl rfl) rfl rfl ?_
   refine AT (.int .i64 ((fst ls m:Nat):Int)) (by rw [hfm]) (Aj ?_)
   first | refine AD (F6 rfl rfl rfl (by omega)) rfl rfl ?_ | refine AD (Fk rfl rfl rfl (by omega)) rfl rfl ?_ | refine AD (FQ rfl rfl rfl (by omega)) rfl rfl ?_
   refine BT (FE (i:=2+m) (v:=nV (fst ls m)) st 0 rfl rfl rfl (by rw [Mr (Ec _ _) (HC _)];simp [Nat.blt_eq];omega) rfl rfl) rfl rfl fun _ hp st=> ?_
   simp only [z0,z1]at st
   rw [Yq (by rw [Ec];omega),HK,Zq (by omega)]at st
   refine B3 ?_
   refine BD (fun s=>i-s.1) (fun s=>[(0,.slice (some ⟨gA,oA,none⟩) i c),(3,.pointer (some ⟨p,0,none⟩)),(6,.int .i64 ((fst ls m:Nat):Int)),(7,.int .i64 (m:Int)),(8,.int .i64 ((fst ls m+(ls.take s.1).count m:Nat):Int)),(60,.slice (some ⟨gA,oA,none⟩) i c),(61,.int .i64 (i:Int)),(62,.int .i64 (s.1:Int))])
    (fun (s:Nat×Value) hp=>St h0.size h0 hp [pt p 328 (DM (.slice (some ⟨ga,0,none⟩) na ca) (.slice (some ⟨gb,0,none⟩) i cb) s.2 ((EQ ls (m+1)).map nV) ((E7 ls).map nV)),row 3 1 (.slice (some ⟨ga,0,none⟩) na ca) (ls.map nV),row 3 1 (.slice (some ⟨gb,0,none⟩) i cb) (((List.range ls.length).map (Ej ls m s.1)).map nV),row 3 1 s.2 ((Ds ls m++Dr ls m s.1).map nV)]∧s.1≤i)
    (0,o) (.cons rfl (.cons rfl (.cons rfl (.cons rfl (.cons (congrArg (fun x:Nat=>some (Value.int .i64 (x:Int))) (by simp)) (DJ rfl rfl rfl)))))) ⟨by simpa [Dr]using st,by simp⟩ ?_
   clear st
   rintro ⟨s,o⟩ hp ⟨st,hs⟩
   simp only at st hs ⊢
   refine AH ?_
   refine AK rfl (fun h=> ?_) (fun h=> ?_)
   ·have hsn:s<ls.length:=by omega
    have hcs:=hcA s (nV ls[s]) (by simp [hsn])
    have hcnt:=LC hsn m
    have hcc:(ls.take s).count m≤320:=zw List.count_le_length (by rw [z6];omega)
    have hol:(Ds ls m++Dr ls m s).length≤1000000:=by
     rw [z2,Im ls m s (by omega)]
     obtain ⟨k,rfl⟩:∃k,m=k+1:=⟨m-1,by omega⟩
     have:=P4 ls k
     have:=Nat.mul_le_mul_right ls.length (show k≤15 by omega)
     omega
    refine AO ?_
    refine xl ((Bz (a:=⟨gA,oA+s,none⟩) st.low hcs)) rfl (Aj ?_)
    refine AK rfl (fun h=> ?_) (fun h=> ?_)
    ·have hsm:ls[s]=m:=by omega
     rw [if_pos hsm]at hcnt
     have hset:=gD hsn hsm (by omega)
     refine AH ?_
     refine xc st 0 1 ?_
     refine AF ?_
     refine BT (EL (o:=0) (i:=s) (v:=nV (fst ls m+(ls.take s).count m)) st 2 rfl (congrArg (fun x=>some (Value.pointer (some ⟨gb,x,none⟩))) (by omega)) rfl (by simp;omega) rfl rfl) rfl rfl fun _ hp st=> ?_
     simp only [z0,z1]at st
     rw [HK,hset]at st
     refine AO ?_
     refine xl (st.cell 0 (i:=34) rfl (SD (Ec _ _) (HC _))) rfl (AC ?_)
     refine xv (Jj rfl rfl rfl) ?_
     rintro v hp hnew
     have hrv:=hnew
     obtain ⟨A2,n2,c2,rfl,hlen2,_,_,hrd2⟩:=((St.start _).new hnew).row 0 rfl
     replace st:=st.ext hnew.1
     refine BN (BY st 3 rfl (hrd2) (hlen2) (by intro u hu;simp at hu;subst hu;rfl) (by simp at hol ⊢;omega) rfl rfl rfl rfl rfl rfl rfl) rfl rfl rfl fun v hp st=> ?_
     simp only [z0,z1]at st
     obtain ⟨A3,n3,c3,rfl,_,_,_,_⟩:=st.row 3 rfl
     refine AB ?_
     refine BT (FE (i:=34) st 0 rfl rfl rfl (by rw [Mr (Ec _ _) (HC _)];rfl) rfl rfl) rfl rfl fun _ hp st=> ?_
     simp only [z0,z1]at st
     rw [Yr (Ec _ _) (HC _),show [Value.int IntKind.i64 (s:Int)]=([s]:List Nat).map nV from rfl,←List.map_append,z8]at st
     refine Bu ?_
     have hof:=La (n:=m) hsn
     rw [if_pos hsm]at hof
     rw [←hof]at st
     exact Ad (s+1,_) (.cons rfl (.cons rfl (.cons rfl (.cons rfl (.cons (by rw [hcnt,←Nat.add_assoc];rfl) (DJ rfl rfl rfl)))))) ⟨st,by simp only;omega⟩ (by simp only;omega)
    ·refine AL ?_
     have hsm:ls[s]≠m:=by omega
     have hof:=La (n:=m) hsn
     rw [if_neg hsm,List.append_nil]at hof
     rw [if_neg hsm,Nat.add_zero]at hcnt
     rw [←hof,gF hsn hsm]at st
     exact Ad (s+1,o) (.cons rfl (.cons rfl (.cons rfl (.cons rfl (.cons (by rw [hcnt];rfl) (DJ rfl rfl rfl)))))) ⟨st,by simp only;omega⟩ (by simp only;omega)
   ·obtain rfl:s=i:=by omega
    rw [show (Ej ls m s)=Ej ls m ls.length by rw [hl],f9 ls m (by omega),show Dr ls m s=Dr ls m ls.length by rw [hl],←L4 ls hm1]at st
    refine AO ?_
    exact Ad (m+1,o) (Bt rfl rfl rfl rfl) ⟨st,by simp only;omega,by simp only;omega⟩ (by simp only;omega)
  ·obtain rfl:m=16:=by omega
   rw [f7 ls hok.2.2.1]at st
   refine AO ?_
   exact ⟨p,rfl,st.uncode⟩
end Go.Bn
end

section
namespace Go.Bn
def Bh:Nat→Nat→List Bool
  | _,0=>[]
  | v,n+1=>Bh (v/2) n++[v%2==1]
theorem Dp:∀ (n v:Nat),(Bh v n).length=n
 | 0,_=>rfl
 | n+1,v=>by simp [Bh,Dp n]
theorem Mq : ∀ (n k v : Nat), k ≤ n → (Bh v n).take k = Bh (v / 2 ^ (n - k)) k
  | 0, k, v, h => by obtain rfl : k = 0 := by omega
                     rfl
  | n + 1, k, v, h => by
    rcases Nat.lt_or_ge n k with h1 | h1
    · obtain rfl : k = n + 1 := by omega
      rw [Nat.sub_self, Nat.pow_zero, Nat.div_one, za (by rw [Dp]; omega)]
    · rw [Bh, List.take_append_of_le_length (by rw [Dp]; omega), Mq n k _ h1, Nat.div_div_eq_div_mul, ← Nat.pow_add_one', show n - k + 1 = n + 1 - k by omega]
def CZ (bs:List Bool):Nat:=bs.foldl (fun v b=>v*2+b.toNat) 0
theorem Qz (bs:List Bool) (b:Bool):CZ (bs++[b])=CZ bs*2+b.toNat:=by simp [CZ]
theorem Iy:∀ (n v:Nat),CZ (Bh v n)=v%2^n
 | 0,v=>by simp [Bh,CZ,Nat.mod_one]
 | n+1,v=>by
  rw [Bh,Qz,Iy n,UF,Nat.pow_succ,Nat.mul_comm (2^n) 2,Nat.mod_mul];omega
theorem Wt (bs:List Bool) {n:Nat} (h:n<bs.length):CZ (bs.take (n+1))=CZ (bs.take n)*2+(bs[n]).toNat:=by
 rw [List.take_succ_eq_append_getElem h,Qz]
theorem Ws (bs:List Bool):∀n,CZ (bs.take n)<2^n
 | 0=>by simp [CZ]
 | n+1=>by
  have ih:=Ws bs n
  rw [Nat.pow_succ]
  rcases Nat.lt_or_ge n bs.length with h | h
  ·rw [Wt bs h]
   have:(bs[n]).toNat≤1:=Bool.toNat_le _
   omega
  ·rw [show bs.take (n+1)=bs.take n by rw [za (by omega),za h]];omega
def Hd (ls:List Nat) (v n:Nat):Prop:=fst ls n≤v∧v<fst ls n+cn ls n
instance (ls:List Nat) (v n:Nat):Decidable (Hd ls v n):=by unfold Hd;infer_instance
def K5 (ls:List Nat) (v n k:Nat):Prop:=0<cn ls k∧fst ls k < (v+1)*2^(k-n)∧v*2^(k-n)<fst ls k+cn ls k
instance (ls:List Nat) (v n k:Nat):Decidable (K5 ls v n k):=by unfold K5;infer_instance
def Nr (ls:List Nat) (v n:Nat):Prop:=∀k,n<k→k<16→¬K5 ls v n k
open Classical in
noncomputable def L6 (ls:List Nat) (v n:Nat):Bool:=decide (Nr ls v n)
theorem L7 {ls:List Nat} {v n:Nat}:L6 ls v n=true↔Nr ls v n:=by unfold L6;exact @decide_eq_true_iff _ (Classical.propDecidable _)
def Fr (ls:List Nat) (n j:Nat):Nat:=(Dr ls n ls.length).getD j 0
noncomputable def GF (ls:List Nat) (bs:List Bool) (left:Nat):Nat→Nat→Nat×Nat×Nat
  | 0,_=>(0,0,2)
  | f+1,n=>
    if left<n then (0,0,2)
    else if Hd ls (CZ (bs.take n)) n then (Fr ls n (CZ (bs.take n)-fst ls n),n,0)
    else if L6 ls (CZ (bs.take n)) n=true then (0,0,13)
    else GF ls bs left f (n+1)
noncomputable def BJ (ls:List Nat) (bs:List Bool):Nat×Nat×Nat:=GF ls bs (min bs.length 15) 16 1
theorem fd {ls:List Nat} {bs:List Bool} {left n:Nat} (h:left<n):∀f,GF ls bs left f n=(0,0,2)
 | 0=>rfl
 | f+1=>by rw [GF,if_pos h]
theorem Wh (ls:List Nat) (bs:List Bool) (left:Nat):∀f n,(GF ls bs left f n).2.1≤left
 | 0,_=>Nat.zero_le _
 | f+1,n=>by
  rw [GF]
  split
  ·exact Nat.zero_le _
  ·split
   ·simp only;omega
   ·split
    ·exact Nat.zero_le _
    ·exact Wh ls bs left f (n+1)
theorem Qv (ls:List Nat) (bs:List Bool):(BJ ls bs).2.1≤bs.length:=zw (Wh ls bs _ _ _) (Nat.min_le_left _ _)
theorem O8 {ls:List Nat} {n:Nat}:∀ {m:Nat},n≤m→(fst ls n+cn ls n)*2^(m+1-n)≤fst ls (m+1)
 | m,h=>by
  rcases Nat.eq_or_lt_of_le h with rfl | h1
  ·rw [show n+1-n=1 by omega,fst];omega
  ·obtain ⟨k,rfl⟩:∃k,m=k+1:=⟨m-1,by omega⟩
   have ih:=O8 (ls:=ls) (n:=n) (m:=k) (by omega)
   rw [fst,show k+1+1-n=(k+1-n)+1 by omega,Nat.pow_succ,←Nat.mul_assoc]
   omega
theorem UQ {ls:List Nat} {s:Nat} (hs:s<ls.length):∀t,s<t→t≤ls.length→∃r,Dr ls ls[s] t=Dr ls ls[s] s++s::r
 | 0,h,_=>by omega
 | t+1,h,ht=>by
  rw [La (by omega)]
  rcases Nat.eq_or_lt_of_le (show s≤t by omega)with rfl | h1
  ·rw [if_pos rfl];exact ⟨[],rfl⟩
  ·obtain ⟨r,hr⟩:=UQ hs t h1 (by omega)
   rw [hr]
   exact ⟨r++_,by rw [z8];rfl⟩
theorem fW {ls:List Nat} {s:Nat} (hs:s<ls.length):Fr ls ls[s] ((ls.take s).count ls[s])=s:=by
 obtain ⟨r,hr⟩:=UQ hs ls.length hs (Nat.le_refl _)
 unfold Fr
 rw [hr]
 have hl:=Im ls ls[s] s (by omega)
 rw [List.getD,zh (by omega),hl];simp
theorem E9 {ls:List Nat} {s:Nat} (hs:s<ls.length):ls.getD s 0=ls[s]:=by simp [List.getD,hs]
theorem OI {ls:List Nat} {s:Nat} (hs:s<ls.length) (h0:ls[s]≠0):val ls s=fst ls ls[s]+(ls.take s).count ls[s]:=by
 unfold val
 rw [E9 hs,if_neg h0]
theorem Wg {ls:List Nat} (hok:Bi ls) {s:Nat} (hs:s<ls.length) (h0:ls[s]≠0) (r:List Bool):BJ ls (Bh (val ls s) ls[s]++r)=(s,ls[s],0):=by
 obtain ⟨hv2,hv1⟩:=HP hok hs h0
 have hn15:=hok.2.2.1 ls[s] (List.getElem_mem hs)
 have hbd:=KI hok hn15
 have hve:=OI hs h0
 have hsy:=fW hs
 generalize ls[s]=n at*
 generalize val ls s=v at*
 have htk:∀k,k≤n→CZ ((Bh v n++r).take k)=v/2^(n-k):=by
  intro k hk
  rw [List.take_append_of_le_length (by rw [Dp];exact hk),Mq n k v hk,Iy]
  refine Nat.mod_eq_of_lt ((Nat.div_lt_iff_lt_mul (Nat.pow_pos (by omega))).2 ?_)
  rw [←Nat.pow_add,show k+(n-k)=n by omega];omega
 have hgo:∀j f k,j+k=n→j<f→1≤k→GF ls (Bh v n++r) (min (Bh v n++r).length 15) f k=(s,n,0):=by
  intro j
  induction j with
  | zero=>
   intro f k hk hf h1
   obtain rfl:k=n:=by omega
   obtain ⟨f,rfl⟩:∃g,f=g+1:=⟨f-1,by omega⟩
   rw [GF,if_neg (by rw [z2,Dp];omega),htk k (Nat.le_refl _),Nat.sub_self,Nat.pow_zero,Nat.div_one,if_pos ⟨hv1,hv2⟩,show v-fst ls k=(ls.take s).count k by omega,hsy]
  | succ j ih=>
   intro f k hk hf h1
   obtain ⟨f,rfl⟩:∃g,f=g+1:=⟨f-1,by omega⟩
   have hp:0<2^(n-k):=Nat.pow_pos (by omega)
   have hnx:=O8 (ls:=ls) (n:=k) (m:=n-1) (by omega)
   rw [show n-1+1=n by omega]at hnx
   have h2:fst ls k+cn ls k≤v/2^(n-k):=(Nat.le_div_iff_mul_le hp).2 (by omega)
   rw [GF,if_neg (by rw [z2,Dp];omega),htk k (by omega),if_neg (fun hh=>by have:=hh.2;omega),if_neg ?_]
   ·exact ih f (k+1) (by omega) (by omega) (by omega)
   ·rw [L7]
    intro ho
    refine ho n (by omega) (by omega) ⟨by omega,?_,?_⟩
    ·exact Nat.lt_of_le_of_lt hv1 (by have:=Nat.lt_div_mul_add (a:=v) hp;rw [Nat.add_mul];omega)
    ·have:=Nat.div_mul_le_self v (2^(n-k));omega
 exact hgo (n-1) 16 1 (by omega) (by omega) (by omega)
theorem gR {ls:List Nat} (hok:Bi ls) {i k:Nat} (hi:i<ls.length) (hk:k<ls.length) (hne:i≠k) (h1:ls[i]≠0) (h2:ls[k]≠0) (hle:ls[i]≤ls[k]):val ls i≠val ls k/2^(ls[k]-ls[i]):=by
 obtain ⟨hv2,hv1⟩:=HP hok hi h1
 obtain ⟨hw2,hw1⟩:=HP hok hk h2
 rcases Nat.eq_or_lt_of_le hle with h | h
 ·rw [h,Nat.sub_self,Nat.pow_zero,Nat.div_one,OI hi h1,OI hk h2,h]
  have key:∀a b:Nat,a<b→(ha:a<ls.length)→(ls.take a).count ls[a]+1≤(ls.take b).count ls[a]:=by
   intro a b hab ha
   have h1:=LC ha ls[a]
   rw [if_pos rfl]at h1
   rw [←h1]
   exact (List.take_sublist_take_left (by omega)).count_le _
  rcases Nat.lt_or_ge i k with h3 | h3
  ·have:=key i k h3 hi;rw [h]at this;omega
  ·have:=key k i (by omega) hk;omega
 ·have hp:0<2^(ls[k]-ls[i]):=Nat.pow_pos (by omega)
  have hnx:=O8 (ls:=ls) (n:=ls[i]) (m:=ls[k]-1) (by omega)
  rw [show ls[k]-1+1=ls[k] by omega]at hnx
  have h2:fst ls ls[i]+cn ls ls[i]≤val ls k/2^(ls[k]-ls[i]):=(Nat.le_div_iff_mul_le hp).2 (by omega)
  omega
end Go.Bn
end

section
namespace Go.Bn
def Ay:Nat→Nat→List UInt8
  | 0,_=>[]
  | w+1,n=>UInt8.ofNat n::Ay w (n/256)
def BZ:List UInt8→Nat
  | []=>0
  | b::r=>b.toNat+256*BZ r
def B2 (k:Int):Nat:=(max 1 (min 4 k)).toNat
theorem gh (k:Int):((B2 k:Nat):Int)=max 1 (min 4 k):=by unfold B2;omega
theorem gi (k:Int):1≤B2 k:=by unfold B2;omega
theorem Q8 (k:Int):B2 k≤4:=by unfold B2;omega
theorem Cs:∀ (w n:Nat),(Ay w n).length=w
 | 0,_=>rfl
 | w+1,n=>by simp [Ay,Cs w]
theorem Th:∀ (w n:Nat),Ay (w+1) n=Ay w n++[UInt8.ofNat (n/256^w)]
 | 0,n=>by simp [Ay]
 | w+1,n=>by
  rw [Ay,Th w (n/256),Ay,z5,Nat.div_div_eq_div_mul,Nat.pow_succ,Nat.mul_comm 256]
theorem NJ:∀ (l:List UInt8),BZ l<256^l.length
 | []=>by simp [BZ]
 | b::r=>by
  have:=NJ r
  have hb:=b.toNat_lt
  simp only [BZ,ze,Nat.pow_succ]
  omega
theorem NI:∀ (w n:Nat),BZ (Ay w n)=n%256^w
 | 0,n=>by simp [Ay,BZ,Nat.mod_one]
 | w+1,n=>by
  rw [Ay,BZ,NI w (n/256),Nat.pow_succ,Nat.mul_comm (256^w)]
  rw [Nat.mod_mul]
  simp
def Ew (l:List UInt8) (at_:Int) (k:Int):Option Nat:=
  if 0≤at_∧at_+(B2 k:Int)≤(l.length:Int)then some (BZ ((l.drop at_.toNat).take (B2 k)))else none
end Go.Bn
end

section
namespace Go.Bn
open Go Proofs
theorem d3 {B:Nat} {h0 hp:AA} {rs:List AE} (s:St B h0 hp rs) (j:Nat) {e sz:Nat} {v:Value} {vs:List Value} (hj:rs[j]? =some (row e sz v vs)):Value.one v=true:=by
 obtain ⟨A,n,c,rfl,_⟩:=s.row j hj;rfl
theorem Oi (n:Int) (hp:AA):AG Tryz.prog 230 [.int .i64 n] hp fun v hp'=>v= .int .i64 (wd 32 n:Nat)∧hp=hp':=by
 refine BE Tryz.func230 rfl fun _=>By ?_
 refine ⟨?_,rfl⟩
 rw [gd];rfl
@[reducible] def gq (p:Nat) (v:Value) (l:List UInt8) (x m:Nat):AE:=CD (pt p 235 [v,.int .u64 (x:Int),.int .i64 (m:Int)]) (row 5 1 v (l.map AN))
def EN (p:Nat) (bs:List Bool):AE:=Cb fun (s:Value×List UInt8×Nat×Nat)=>Fb (s.2.2.1<2^s.2.2.2∧s.2.2.2<8∧bs=AR s.2.1++BM s.2.2.2 s.2.2.1) (gq p s.1 s.2.1 s.2.2.1 s.2.2.2)
theorem St.wr {B p:Nat} {bs:List Bool} {F:List AE} {h0 hp:AA} (st:St B h0 hp (EN p bs::F)):∃v l x m,x<2^m∧m<8∧bs=AR l++BM m x∧St B h0 hp (pt p 235 [v,.int .u64 (x:Int),.int .i64 (m:Int)]::Bn.row 5 1 v (l.map AN)::F):=by
 obtain ⟨⟨vb,l,x,m⟩,st1⟩:=St.ex.1 st
 obtain ⟨⟨hx,hm,hbs⟩,st⟩:=St.and.1 st1
 exact ⟨vb,l,x,m,hx,hm,hbs,St.star.1 st⟩
theorem St.unwr {B p:Nat} {F:List AE} {h0 hp:AA} {v:Value} {l:List UInt8} {x m:Nat} (st:St B h0 hp (pt p 235 [v,.int .u64 (x:Int),.int .i64 (m:Int)]::Bn.row 5 1 v (l.map AN)::F)) (hx:x<2^m) (hm:m<8):St B h0 hp (EN p (AR l++BM m x)::F):=
 St.ex.2 ⟨(v,l,x,m),St.and.2 ⟨⟨hx,hm,rfl⟩,St.star.2 st⟩⟩
theorem St.wr0 {B p:Nat} {F:List AE} {h0 hp:AA} (st:St B h0 hp (pt p 235 [.slice none 0 0,.int .u64 0,.int .i64 0]::F)):St B h0 hp (EN p []::F):=by
 have h:=(st.nilrow 5 1).perm (List.Perm.swap _ _ _)
 exact St.unwr (l:=[]) (x:=0) (m:=0) h (by decide) (by decide)
theorem ME {B p n:Nat} {k:Int} {bs:List Bool} {F:List AE} {h0:AA} (sw:St B h0 h0 (EN p bs::F)) (hn:n<4294967296) (hb:bs.length≤1099511627776):
  AG Tryz.prog 238 [.pointer (some ⟨p,0,none⟩),.int .u32 (n:Int),.int .i64 k] h0 fun v h'=>v= .tuple #[]∧St B h0 h' (EN p (bs++BM (wd 32 k) n)::F):=by
 obtain ⟨vb,l,x,m,hxm,hm,hbs,st⟩:=sw.wr
 clear sw
 subst hbs
 have hwd:=OL 32 k
 generalize hkw:wd 32 k=kw at hwd
 have hl:8*l.length≤1099511627776:=by rw [z2,Gk]at hb;omega
 clear hb
 have hk2:2^kw≤4294967296:=zw (Nat.pow_le_pow_right (by omega) hwd) (by decide)
 have hm2:2^m≤128:=zw (Nat.pow_le_pow_right (by omega) (show m≤7 by omega)) (by decide)
 have hk1:1≤2^kw:=Nat.two_pow_pos kw
 have hxn:=de (n:=n) (k:=kw) hxm
 have hmk:2^(m+kw)≤549755813888:=zw (Nat.pow_le_pow_right (by omega) (show m+kw≤39 by omega)) (by decide)
 have hnm:n%2^kw<2^kw:=Nat.mod_lt _ hk1
 refine Bg Tryz.func238 rfl fun _=>Bu ?_
 refine xk (Oi k _) rfl ?_
 rintro _ _ ⟨rfl,rfl⟩
 rw [hkw]
 refine AO ?_
 refine xe ?_
 refine AF ?_
 refine xa (GT (m:=1) kw rfl rfl (by simp only [IntKind.bits];omega) (by simp only [AI];omega)) ?_
 rw [Nat.one_mul]
 refine xa (Bk rfl rfl hk1 (by simp only [AI];omega)) ?_
 first | refine AD (Je rfl rfl rfl (by simp only [IntKind.bits];omega) (by simp only [IntKind.bits];omega)) rfl rfl ?_ | refine AD (IG rfl rfl) rfl rfl ?_
 rw [Nat.and_two_pow_sub_one_eq_mod]
 refine AF ?_
 refine xe ?_
 have hsh:n%2^kw*2^m<2^(m+kw):=by omega
 refine xa (GT m rfl rfl (by simp only [IntKind.bits];omega) (by simp only [AI];omega)) ?_
 first | refine AD (Px rfl rfl rfl (by simp only [IntKind.bits];omega) (by simp only [IntKind.bits];omega)) rfl rfl ?_ | refine AD (Nb rfl rfl) rfl rfl ?_
 rw [Um hxm]
 refine AB ?_
 refine xj st 0 fun hp st=> ?_
 simp only [z0,z1]at st
 refine AL ?_
 refine xe ?_
 refine AJ ?_
 refine xj st 0 fun hp st=> ?_
 simp only [z0,z1]at st
 refine AB ?_
 have htot:AR l++BM (m+kw) (x+n%2^kw*2^m)=AR l++BM m x++BM kw n:=by rw [YJ hxm,z8]
 generalize AR l++BM m x++BM kw n=T at htot ⊢
 refine BD (fun s=>s.2.2.2) (fun _=>[(0,.pointer (some ⟨p,0,none⟩))])
  (fun (s:Value×List UInt8×Nat×Nat) hp=>St B h0 hp (pt p 235 [s.1,.int .u64 (s.2.2.1:Int),.int .i64 (s.2.2.2:Int)]::row 5 1 s.1 (s.2.1.map AN)::F)∧s.2.2.1<2^s.2.2.2∧8*s.2.1.length+s.2.2.2≤1099511627876∧AR s.2.1++BM s.2.2.2 s.2.2.1=T)
  (vb,l,x+n%2^kw*2^m,m+kw) (N4 rfl) ⟨st,hxn,by simp only;omega,htot⟩ ?_
 clear hxm hm hwd hl hk2 hm2 hk1 hxn hmk hnm hsh htot st hkw hn
 rintro ⟨v,l,x,m⟩ hp ⟨st,hxm,hl,htot⟩
 simp only at st hxm hl htot ⊢
 refine AL ?_
 refine xe ?_
 refine AB ?_
 refine AK rfl (fun h=> ?_) (fun h=> ?_)
 ·obtain ⟨m,rfl⟩:∃m',m=8+m':=⟨m-8,by omega⟩
  refine AP ?_
  refine xe ?_
  refine AF ?_
  refine xe ?_
  refine xa (IH rfl rfl rfl) ?_
  refine AT (AN (UInt8.ofNat x)) (by simp [AN,IntKind.bits]) ?_
  refine BW (Ep rfl rfl rfl) rfl rfl rfl (fun _ _ ⟨_,_,e,_⟩=>e) ?_
  rintro _ hp ⟨A,rfl,hx,hrd⟩
  have st:=st.ext hx
  refine BN (BY st 1 rfl (hrd) (rfl) (by simp [Value.one,AN]) (by simp;omega) rfl rfl rfl rfl rfl rfl rfl) rfl rfl rfl fun v hp st=> ?_
  simp only [z0,z1]at st
  refine AB ?_
  refine BT (FE st 0 rfl rfl rfl rfl rfl (d3 st 1 rfl)) rfl rfl fun _ hp st=> ?_
  simp only [z0,z1]at st
  refine AL ?_
  refine xe ?_
  first | refine AD (EK 8 rfl rfl (by decide)) rfl rfl ?_ | refine AD (Ez 8 rfl rfl (by decide)) rfl rfl ?_
  refine AB ?_
  refine xj st 0 fun hp st=> ?_
  simp only [z0,z1]at st
  refine AH ?_
  refine xe ?_
  refine xa (Bk (n:=8) rfl rfl (by omega) (by simp only [AI];omega)) (AB ?_)
  refine xj st 0 fun hp st=> ?_
  simp only [z0,z1]at st
  refine AB ?_
  simp only [z0,z1,Nat.add_sub_cancel_left]at st
  rw [←List.map_singleton (f:=AN),←List.map_append]at st
  refine Ad (v,l++[UInt8.ofNat x],x/2^8,m) (N4 rfl) ⟨st,?_,?_,?_⟩ ?_
  ·simp only
   rw [Nat.pow_add]at hxm
   exact Nat.div_lt_of_lt_mul hxm
  ·simp only [z2,zm];omega
  ·simp only
   rw [show 2^8=256 by rfl,YH];exact htot
  ·simp only;omega
 ·refine AB ?_
  refine ⟨rfl,?_⟩
  rw [←htot]
  exact st.unwr hxm (by omega)
theorem gZ {B p:Nat} {bs:List Bool} {F:List AE} {h0:AA} (sw:St B h0 h0 (EN p bs::F)) (hb:bs.length≤1099511627776):
  AG Tryz.prog 156 [.pointer (some ⟨p,0,none⟩)] h0 fun v h'=>St h0.size h0 h' [row 5 1 v ((E1 bs).map AN)]:=by
 obtain ⟨vb,l,x,m,hxm,hm,hbs,sw⟩:=sw.wr
 have c0:=sw.cell 0 (i:=0) rfl rfl
 have c1:=sw.cell 0 (i:=1) rfl rfl
 have c2:=sw.cell 0 (i:=2) rfl rfl
 obtain ⟨A,n,c,rfl,hlen,hnc,hcm,hrd0⟩:=sw.row 1 rfl
 have hlen':l.length=n:=by simpa using hlen
 have hbl:bs.length=8*l.length+m:=by rw [hbs,z2,Gk,DE]
 have hp0:=Uw m x hm hxm
 refine BE Tryz.func156 rfl fun _=>Bq ?_
 refine xv (Ji rfl) ?_
 rintro v hp hnew
 have st:=(St.start h0).new hnew
 refine AF ?_
 refine xl (Bz st.low c0) rfl ?_
 refine BN (BY st 0 rfl (hrd0.ext st.low) (hlen) (Dl _) (by simp;omega) rfl rfl rfl rfl rfl rfl rfl) rfl rfl rfl fun v hp st=> ?_
 simp only [z0,z1]at st
 refine AP ?_
 refine xl (Bz st.low c2) rfl (AB ?_)
 refine AK rfl (fun h=> ?_) (fun h=> ?_)
 ·refine AH ?_
  refine xl (Bz st.low c1) rfl ?_
  refine xa (IH rfl rfl rfl) ?_
  refine AT (AN (UInt8.ofNat x)) (by simp [AN,IntKind.bits]) ?_
  refine xv (Ep rfl rfl rfl) ?_
  rintro _ hp ⟨A,rfl,hx,hrd⟩
  have st:=st.ext hx
  refine BN (BY st 0 rfl (hrd) (rfl) (by simp [Value.one,AN]) (by simp;omega) rfl rfl rfl rfl rfl rfl rfl) rfl rfl rfl fun v hp st=> ?_
  simp only [z0,z1]at st
  refine AP ?_
  rw [if_neg (by omega)]at hp0
  rw [hbs,Uv,hp0,List.map_append]
  exact st
 ·refine AO ?_
  rw [if_pos (by omega)]at hp0
  rw [hbs,Uv,hp0,List.append_nil]
  exact st
theorem gk {B p:Nat} {bs:List Bool} {F:List AE} {h0:AA} (sw:St B h0 h0 (EN p bs::F)) (hb:bs.length≤1099511627776):
  AG Tryz.prog 155 [.pointer (some ⟨p,0,none⟩)] h0 fun v h'=>v= .int .i64 (bs.length:Nat)∧h0=h':=by
 obtain ⟨vb,l,x,m,hxm,hm,hbs,st⟩:=sw.wr
 obtain ⟨A,n,c,rfl,hlen,hnc,hcm,hrd0⟩:=st.row 1 rfl
 have hlen':l.length=n:=by simpa using hlen
 have hbl:bs.length=8*l.length+m:=by rw [hbs,z2,Gk,DE]
 refine BE Tryz.func155 rfl fun _=>EY ?_
 refine xe ?_
 refine AC ?_
 refine xa (D0 (m:=8) rfl rfl (by simp only [AI];omega)) (AF ?_)
 refine xe ?_
 refine AJ ?_
 refine ⟨?_,rfl⟩
 rw [hbl,hlen'];rfl
end Go.Bn
end

section
namespace Go.Bn
def CB (bs:List Bool) (at_ k:Nat):Nat:=BS ((bs.drop at_).take k)
theorem Il (bs:List Bool) (at_ k:Nat):CB bs at_ k<2^k:=
 Nat.lt_of_lt_of_le (J1 _) (Nat.pow_le_pow_right (by omega) (by rw [z6];omega))
theorem YI (l:List UInt8) (i:Nat):AR (l.take i)=(AR l).take (8*i):=by
 induction l generalizing i with
 | nil=>simp [AR]
 | cons b r ih=>
  cases i with
  | zero=>simp [AR]
  | succ i=>
   have e:∀r,AR (b::r)=BM 8 b.toNat++AR r:=by intro r;simp [AR]
   rw [List.take_succ_cons,e,e,ih,List.take_append,DE,za (l:=BM 8 b.toNat) (by rw [DE];omega),show 8*(i+1)-8=8*i by omega]
theorem YF (l:List UInt8) (i:Nat):AR (l.drop i)=(AR l).drop (8*i):=by
 induction l generalizing i with
 | nil=>simp [AR]
 | cons b r ih=>
  cases i with
  | zero=>simp [AR]
  | succ i=>
   have e:∀r,AR (b::r)=BM 8 b.toNat++AR r:=by intro r;simp [AR]
   rw [List.drop_succ_cons,e,ih,List.drop_append,DE,List.drop_of_length_le (l:=BM 8 b.toNat) (by rw [DE];omega),show 8*(i+1)-8=8*i by omega,z4]
theorem dB (l:List UInt8) (at_ k:Nat) (hk:k≤32):BS (AR ((l.drop (at_/8)).take 5))/2^(at_%8)%2^k=CB (AR l) at_ k:=by
 rw [←Wy,←gI,YI,YF,List.drop_take,List.take_take,List.drop_drop,CB]
 congr 2
 ·omega
 ·congr 1;omega
theorem gH (l:List UInt8) (b:UInt8):BS (AR (l++[b]))=BS (AR l)+b.toNat*2^(8*l.length):=by
 have hb:=b.toNat_lt
 rw [Rs,Q2,Gk,Nat.mul_comm]
 congr 1
 simp only [AR,zt,List.flatMap_nil,List.append_nil,J0]
 rw [Nat.mod_eq_of_lt (by omega)]
theorem Q3 (l:List UInt8):BS (AR l)<2^(8*l.length):=by
 have:=J1 (AR l)
 rwa [Gk]at this
theorem cm (bs:List Bool) (h:bs.length<8):AR (E1 bs)=bs++List.replicate ((8-bs.length%8)%8) false:=by
 have h1:=Uw bs.length (BS bs) h (J1 bs)
 rw [Ic]at h1
 rw [h1]
 split
 ·rename_i h0
  rw [List.length_eq_zero_iff.1 h0];rfl
 ·rename_i h0
  have hv:=J1 bs
  have hp:2^bs.length≤128:=zw (Nat.pow_le_pow_right (by omega) (show bs.length≤7 by omega)) (by decide)
  have e:AR [UInt8.ofNat (BS bs)]=BM 8 (BS bs):=by
   simp only [AR,zt,List.flatMap_nil,List.append_nil]
   exact K6 8 _ _ (by simp)
  have e3:=KA bs.length (8-bs.length) (BS bs)
  rw [show bs.length+(8-bs.length)=8 by omega,Ic,Nat.div_eq_of_lt hv,YL]at e3
  rw [e,e3]
  congr 2;omega
theorem YG (bs:List Bool):AR (E1 bs)=bs++List.replicate ((8-bs.length%8)%8) false:=by
 induction hn:bs.length using Nat.strongRecOn generalizing bs with
 | _ n ih=>
  subst hn
  by_cases h:bs.length<8
  ·exact cm bs h
  ·have e:bs=BM 8 (UInt8.ofNat (BS (bs.take 8))).toNat++bs.drop 8:=by
    have h8:(bs.take 8).length=8:=by rw [z6];omega
    have hv:=J1 (bs.take 8)
    have h1:=Ic (bs.take 8)
    rw [h8]at h1 hv
    rw [show (UInt8.ofNat (BS (bs.take 8))).toNat=BS (bs.take 8) by simp;omega,h1,List.take_append_drop]
   have hd:(bs.drop 8).length=bs.length-8:=by rw [z7]
   have hih:=ih (bs.drop 8).length (by omega) (bs.drop 8) rfl
   generalize UInt8.ofNat (BS (bs.take 8))=b at e
   have hlen:bs.length=8+(bs.drop 8).length:=by omega
   generalize bs.drop 8=r at*
   subst e
   rw [Ux]
   have e2:AR (b::E1 r)=BM 8 b.toNat++AR (E1 r):=by simp [AR]
   rw [e2,hih,z8]
   congr 3
   rw [hlen];omega
theorem bl (bs:List Bool) (j k:Nat):CB (bs++List.replicate j false) bs.length k=0:=by
 unfold CB
 rw [List.drop_left,List.take_replicate]
 have:=gJ [] (min k j)
 simpa [BS]using this
end Go.Bn
end

section
namespace Go.Bn
open Go Proofs
@[reducible] def Cn (p:Nat) (A:Option Addr) (m c at_:Nat):AE:=pt p 308 [.slice A m c,.int .i64 (at_:Int)]
theorem dw {m c:Nat} {A:Option Addr} {h0:AA}:AG Tryz.prog 189 [.slice A m c] h0 fun v h'=>∃p,v= .pointer (some ⟨p,0,none⟩)∧St h0.size h0 h' [Cn p A m c 0]:=by
 refine BE Tryz.func189 rfl fun _=> ?_
 have st:=St.start h0
 refine AO ?_
 refine xa (AZ (ps:=[(0,.slice A m c)]) (cs:= #[.slice A m c,.int .i64 0]) rfl rfl) ?_
 refine xv (Bv rfl rfl) ?_
 rintro _ hp ⟨p,rfl,hnew⟩
 have st:=st.new hnew
 refine AF ?_
 exact ⟨_,rfl,st⟩
theorem QU {p m c a:Nat} {A:Option Addr} {h0:AA} (c0:Az h0 ⟨p,0,none⟩=some (.slice A m c)) (c1:Az h0 ⟨p,1,none⟩=some (.int .i64 (a:Int))) (hm:m≤1099511627776) (ha:a≤8*m):
  AG Tryz.prog 192 [.pointer (some ⟨p,0,none⟩)] h0 fun v h'=>v= .int .i64 (8*m-a:Nat)∧h0=h':=by
 refine BE Tryz.func192 rfl fun _=>EY ?_
 refine xe ?_
 refine AC ?_
 refine xa (D0 (m:=8) rfl rfl (by simp only [AI];omega)) (AF ?_)
 refine xe ?_
 refine AJ ?_
 exact ⟨rfl,rfl⟩
theorem QX {p m c a:Nat} {k:Int} {A:Option Addr} {l:List UInt8} {h0:AA} (c0:Az h0 ⟨p,0,none⟩=some (.slice A m c)) (c1:Az h0 ⟨p,1,none⟩=some (.int .i64 (a:Int)))
  (hr:Rd h0 A (l.map AN)) (hl:l.length=m) (hm:m≤1099511627776) (ha:a≤8*m):
  AG Tryz.prog 193 [.pointer (some ⟨p,0,none⟩),.int .i64 k] h0 fun v h'=>v= .int .u32 (CB (AR l) a (wd 32 k):Nat)∧h0=h':=by
 have hwd:=OL 32 k
 have hfin:=dB l a (wd 32 k) hwd
 have hnlt:=Il (AR l) a (wd 32 k)
 refine Ac Tryz.func193 rfl fun _=>Cp ?_
 refine xk (Oi k _) rfl ?_
 rintro _ _ ⟨rfl,rfl⟩
 generalize wd 32 k=kw at*
 have hk2:2^kw≤4294967296:=zw (Nat.pow_le_pow_right (by omega) hwd) (by decide)
 have hk1:1≤2^kw:=Nat.two_pow_pos kw
 refine AP ?_
 refine El (Ck [(4,.pure)]) (by kernel_rfl) (by kernel_rfl) (AF ?_)
 refine xe ?_
 first | refine AD (KY (n:=8) rfl rfl (by omega) (by simp only [AI];omega)) rfl rfl ?_ | refine AD (Nd rfl rfl (by omega) (by omega) (by simp only [AI];omega)) rfl rfl ?_ | refine AD (Nc rfl rfl (by omega)) rfl rfl ?_
 refine AJ ?_
 refine BD (fun s=>5-s) (fun s=>[(0,.pointer (some ⟨p,0,none⟩)),(5,.int .i64 (kw:Int)),(6,.int .u64 (BS (AR ((l.drop (a/8)).take s)):Nat)),(7,.int .i64 (s:Int)),(8,.int .i64 (a/8:Nat))])
  (fun (s:Nat) hp=>h0=hp∧s≤5)
  0 (.cons rfl (.cons rfl (.cons (by simp [AR,BS];rfl) (Cu rfl rfl)))) ⟨rfl,by omega⟩ ?_
 rintro i hp ⟨rfl,hi⟩
 refine AL ?_
 refine Am 20 rfl (fun h=> ?_) (fun h=> ?_)
 ·refine AL ?_
  refine xe ?_
  refine AJ ?_
  refine AK rfl (fun h=> ?_) (fun h=> ?_)
  ·have hlt:a/8+i<l.length:=by omega
   obtain ⟨b,o,rfl,hc⟩:=hr.at_ (by rw [z3];omega)
   have hcell:=hc (a/8+i) (AN l[a/8+i]) (by simp [hlt])
   have hstep:(l.drop (a/8)).take (i+1)=(l.drop (a/8)).take i++[l[a/8+i]]:=by
    rw [List.take_succ_eq_append_getElem (by simp;omega)];simp
   have hlen:((l.drop (a/8)).take i).length=i:=by rw [z6,z7];omega
   have hv:=Q3 ((l.drop (a/8)).take i)
   have hs:=gH ((l.drop (a/8)).take i) l[a/8+i]
   rw [←hstep,hlen]at hs
   rw [hlen]at hv
   have hb:=(l[a/8+i]).toNat_lt
   have h32:2^(8*i)≤4294967296:=zw (Nat.pow_le_pow_right (by omega) (show 8*i≤32 by omega)) (by decide)
   generalize BS (AR ((l.drop (a/8)).take i))=q at hv hs
   generalize l[a/8+i]=y at*
   have hprod:y.toNat*2^(8*i)≤255*4294967296:=Nat.mul_le_mul (by omega) h32
   refine AP ?_
   refine xe ?_
   refine AJ ?_
   refine xl (hcell) rfl (AB ?_)
   refine xa (D0 (m:=8) rfl rfl (by simp only [AI];omega)) ?_
   first | refine AD (GT _ rfl rfl (by simp only [IntKind.bits];omega) (by simp only [AI];omega)) rfl rfl ?_ | refine AD (Lv _ rfl rfl (by simp only [IntKind.bits];omega) (by simp only [AI];omega)) rfl rfl ?_ | refine AD (Lw _ rfl rfl (by simp only [IntKind.bits];omega)) rfl rfl ?_ | refine AD (UZ rfl rfl (by omega)) rfl rfl ?_
   first | refine AD (Px rfl rfl rfl (by simp only [IntKind.bits];omega) (by simp only [IntKind.bits];omega)) rfl rfl ?_ | refine AD (Nb rfl rfl) rfl rfl ?_
   rw [Um hv,←hs]
   refine AP ?_
   exact Ad (i+1) (CP rfl rfl rfl rfl rfl) ⟨rfl,by omega⟩ (by omega)
  ·refine AB ?_
   have hq:BS (AR ((l.drop (a/8)).take i))=BS (AR ((l.drop (a/8)).take 5)):=by
    first
     | (rw [show i=5 by omega])
     | (rw [za (i:=i) (by rw [z7];omega),za (i:=5) (by rw [z7];omega)])
   have hv:=Q3 ((l.drop (a/8)).take 5)
   have hv40:2^(8*((l.drop (a/8)).take 5).length)≤1099511627776:=zw (Nat.pow_le_pow_right (by omega) (show _≤40 by rw [z6];omega)) (by decide)
   rw [hq]
   generalize BS (AR ((l.drop (a/8)).take 5))=q at*
   have hsh:q/2^(a%8)≤q:=Nat.div_le_self _ _
   refine AH ?_
   refine xe ?_
   first | refine AD (Nh (n:=8) rfl rfl (by omega)) rfl rfl ?_ | refine AD (Ng rfl rfl (by omega) (by omega)) rfl rfl ?_ | refine AD (Nf rfl rfl (by omega)) rfl rfl ?_
   first | refine AD (EK _ rfl rfl (by simp only [IntKind.bits];omega)) rfl rfl ?_ | refine AD (Py _ rfl rfl (by simp only [IntKind.bits];omega)) rfl rfl ?_ | refine AD (Ez _ rfl rfl (by simp only [IntKind.bits];omega)) rfl rfl ?_ | refine AD (Ni rfl rfl (by omega)) rfl rfl ?_
   refine AC ?_
   refine xa (GT (m:=1) kw rfl rfl (by simp only [IntKind.bits];omega) (by simp only [AI];omega)) ?_
   rw [Nat.one_mul]
   refine xa (Bk (n:=1) rfl rfl hk1 (by simp only [AI];omega)) ?_
   first | refine AD (Je rfl rfl rfl (by simp only [IntKind.bits];omega) (by simp only [IntKind.bits];omega)) rfl rfl ?_ | refine AD (IG rfl rfl) rfl rfl ?_
   rw [Nat.and_two_pow_sub_one_eq_mod,hfin]
   refine AJ ?_
   exact ⟨rfl,rfl⟩
 ·refine Bq ?_
  have hq:BS (AR ((l.drop (a/8)).take i))=BS (AR ((l.drop (a/8)).take 5)):=by
   first
    | (rw [show i=5 by omega])
    | (rw [za (i:=i) (by rw [z7];omega),za (i:=5) (by rw [z7];omega)])
  have hv:=Q3 ((l.drop (a/8)).take 5)
  have hv40:2^(8*((l.drop (a/8)).take 5).length)≤1099511627776:=zw (Nat.pow_le_pow_right (by omega) (show _≤40 by rw [z6];omega)) (by decide)
  rw [hq]
  generalize BS (AR ((l.drop (a/8)).take 5))=q at*
  have hsh:q/2^(a%8)≤q:=Nat.div_le_self _ _
  refine AH ?_
  refine xe ?_
  first | refine AD (Nh (n:=8) rfl rfl (by omega)) rfl rfl ?_ | refine AD (Ng rfl rfl (by omega) (by omega)) rfl rfl ?_ | refine AD (Nf rfl rfl (by omega)) rfl rfl ?_
  first | refine AD (EK _ rfl rfl (by simp only [IntKind.bits];omega)) rfl rfl ?_ | refine AD (Py _ rfl rfl (by simp only [IntKind.bits];omega)) rfl rfl ?_ | refine AD (Ez _ rfl rfl (by simp only [IntKind.bits];omega)) rfl rfl ?_ | refine AD (Ni rfl rfl (by omega)) rfl rfl ?_
  refine AC ?_
  refine xa (GT (m:=1) kw rfl rfl (by simp only [IntKind.bits];omega) (by simp only [AI];omega)) ?_
  rw [Nat.one_mul]
  refine xa (Bk (n:=1) rfl rfl hk1 (by simp only [AI];omega)) ?_
  first | refine AD (Je rfl rfl rfl (by simp only [IntKind.bits];omega) (by simp only [IntKind.bits];omega)) rfl rfl ?_ | refine AD (IG rfl rfl) rfl rfl ?_
  rw [Nat.and_two_pow_sub_one_eq_mod,hfin]
  refine AJ ?_
  exact ⟨rfl,rfl⟩
theorem Vi {B p m c a:Nat} {k:Int} {A:Option Addr} {F:List AE} {h0:AA} (st:St B h0 h0 (Cn p A m c a::F)) (hm:m≤1099511627776) (ha:a≤8*m):
  AG Tryz.prog 311 [.pointer (some ⟨p,0,none⟩),.int .i64 k] h0 fun v h'=>v= .bool (decide (wd 32 k≤8*m-a))∧St B h0 h' (Cn p A m c (if wd 32 k≤8*m-a then a+wd 32 k else a)::F):=by
 have hwd:=OL 32 k
 refine Ac Tryz.func311 rfl fun _=>AO ?_
 refine xk (Oi k _) rfl ?_
 rintro _ _ ⟨rfl,rfl⟩
 generalize wd 32 k=kw at*
 refine BP ?_
 refine xk (QU (st.cell 0 rfl rfl) (st.cell 0 rfl rfl) hm ha) rfl ?_
 rintro _ _ ⟨rfl,rfl⟩
 refine AF ?_
 refine AK rfl (fun h=> ?_) (fun h=> ?_)
 ·refine AH ?_
  rw [if_neg (by omega),zu (by omega)]
  exact ⟨rfl,st⟩
 ·refine AL ?_
  refine xe ?_
  refine AJ ?_
  refine xj st 0 fun hp st=> ?_
  simp only [z0,z1]at st
  refine AL ?_
  rw [if_pos (by omega),decide_eq_true (by omega)]
  exact ⟨rfl,st⟩
theorem Jr {B p m c a:Nat} {k:Int} {A:Option Addr} {l:List UInt8} {F:List AE} {h0:AA} (st:St B h0 h0 (Cn p A m c a::F)) (hr:Rd h0 A (l.map AN)) (hl:l.length=m) (hm:m≤1099511627776) (ha:a≤8*m):
  AG Tryz.prog 287 [.pointer (some ⟨p,0,none⟩),.int .i64 k] h0 fun v h'=>
   v=Al [.int .u32 ((if wd 32 k≤8*m-a then CB (AR l) a (wd 32 k)else 0:Nat):Int),.bool (decide (wd 32 k≤8*m-a))]∧St B h0 h' (Cn p A m c (if wd 32 k≤8*m-a then a+wd 32 k else a)::F):=by
 refine Ac Tryz.func287 rfl fun _=>Aj ?_
 refine xk (QX (st.cell 0 rfl rfl) (st.cell 0 rfl rfl) hr hl hm ha) rfl ?_
 rintro _ _ ⟨rfl,rfl⟩
 refine AO ?_
 refine xk (Vi st hm ha) rfl ?_
 rintro _ hp ⟨rfl,st⟩
 refine AB ?_
 refine AK rfl (fun h=> ?_) (fun h=> ?_)
 ·refine AL ?_
  have hn:¬wd 32 k≤8*m-a:=by simpa using h
  rw [if_neg hn]at st
  rw [if_neg hn,if_neg hn,zu hn]
  exact ⟨rfl,st⟩
 ·refine AP ?_
  have hn:wd 32 k≤8*m-a:=by simpa using h
  rw [if_pos hn]at st
  rw [if_pos hn,if_pos hn,decide_eq_true hn]
  exact ⟨rfl,st⟩
end Go.Bn
end

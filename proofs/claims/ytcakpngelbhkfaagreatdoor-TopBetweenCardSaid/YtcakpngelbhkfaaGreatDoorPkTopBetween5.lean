/- Packed texts of a claim: what its theorem uses, joined. -/
import Derived.MapKept
import Derived.Test.YtcakpngelbhkfaaGreatDoorPkTopBetween4
set_option maxRecDepth 100000
set_option maxHeartbeats 4000000
set_option linter.unusedVariables false
set_option linter.unusedSimpArgs false
set_option linter.unusedSectionVars false
set_option linter.defProp false
section
namespace Go.Bn
open Go Proofs
def CI (ls:List Nat) (s:Int):Nat:=if s<0 then 0 else ls.getD s.toNat 0
theorem aY {ls:List Nat} {t:Nat} (h:t<ls.length):CI ls (t:Int)=ls[t]:=by
 unfold CI
 rw [if_neg (by omega),Int.toNat_natCast,E9 h]
theorem Ti {ls:List Nat} {s:Int} (h:CI ls s≠0):∃t:Nat,s=t∧∃ht:t<ls.length,CI ls s=ls[t]:=by
 unfold CI at h
 by_cases h1:s<0
 ·rw [if_pos h1]at h;exact absurd rfl h
 ·rw [if_neg h1]at h
  have h2:s.toNat<ls.length:=by
   rcases Nat.lt_or_ge s.toNat ls.length with h3 | h3
   ·exact h3
   ·rw [List.getD,List.getElem?_eq_none h3]at h;exact absurd rfl h
  exact ⟨s.toNat,by omega,h2,by unfold CI;rw [if_neg h1,E9 h2]⟩
theorem NL {ls:List Nat} (hok:Bi ls) (s:Int):CI ls s≤15:=by
 by_cases h:CI ls s=0
 ·omega
 ·obtain ⟨t,_,ht,e⟩:=Ti h
  rw [e];exact hok.2.2.1 _ (List.getElem_mem ht)
theorem Yi {B p:Nat} {s:Int} {ls:List Nat} {F:List AE} {hb h0:AA} (st:St B hb h0 (CO p ls::F)) (hn:ls.length≤320):
  AG Tryz.prog 239 [.pointer (some ⟨p,0,none⟩),.int .i64 s] h0 fun v h'=>v= .int .i64 (CI ls s:Nat)∧h0=h':=by
 obtain ⟨va,vb,vo,so⟩:=st.code
 obtain ⟨A,n,c,rfl,hlen,_,_,hrd⟩:=so.row 1 rfl
 rw [z3]at hlen
 refine Ac Tryz.func239 rfl fun _=>Bq ?_
 refine Am 11 rfl (fun h=> ?_) (fun h=> ?_)
 ·refine Cp ?_
  unfold CI
  exact ⟨by rw [if_pos h];rfl,rfl⟩
 ·refine AJ ?_
  refine xc so 0 0 ?_
  refine AJ ?_
  refine AK rfl (fun h=> ?_) (fun h=> ?_)
  ·refine AH ?_
   unfold CI
   rename_i hs h
   exact ⟨by rw [if_neg (by omega),List.getD,List.getElem?_eq_none (by omega)];rfl,rfl⟩
  ·obtain ⟨t,rfl⟩:∃t:Nat,s=t:=⟨s.toNat,by omega⟩
   obtain ⟨gA,oA,rfl,hcA⟩:=hrd.at_ (by rw [z3];omega)
   have ht:t<ls.length:=by omega
   refine AL ?_
   refine xc so 0 0 ?_
   refine AB ?_
   refine xl ((hcA t (nV ls[t]) (by simp [ht]))) rfl (AF ?_)
   exact ⟨by rw [aY ht];rfl,rfl⟩
theorem Ov {B p q:Nat} {s:Int} {ls:List Nat} {bs:List Bool} {F:List AE} {h0:AA} (st:St B h0 h0 (EN q bs::CO p ls::F)) (hok:Bi ls) (hb:bs.length≤1099511627000):
  AG Tryz.prog 205 [.pointer (some ⟨p,0,none⟩),.pointer (some ⟨q,0,none⟩),.int .i64 s] h0
   fun v h'=>v= .bool (decide (CI ls s≠0))∧St B h0 h' (EN q (bs++Bh (val ls s.toNat) (CI ls s))::CO p ls::F):=by
 have hl15:=NL hok s
 refine Bg Tryz.func205 rfl fun _=>AP ?_
 refine xk (Yi (st.perm (List.Perm.swap _ _ _)) hok.2.1) rfl ?_
 rintro _ _ ⟨rfl,rfl⟩
 refine AP ?_
 refine AK rfl (fun h=> ?_) (fun h=> ?_)
 ·refine AH ?_
  have h0:CI ls s=0:=by omega
  rw [h0,Bh,List.append_nil]
  exact ⟨rfl,st⟩
 ·have hn0:CI ls s≠0:=by omega
  obtain ⟨t,rfl,ht,hlt⟩:=Ti hn0
  rw [Int.toNat_natCast]
  have hv:=HP hok ht (by omega)
  have hv2:=LJ hok (n:=ls[t]) (by omega)
  obtain ⟨n,hn⟩:∃n,CI ls (t:Int)=n:=⟨_,rfl⟩
  obtain ⟨v,hvv⟩:∃v,val ls t=v:=⟨_,rfl⟩
  rw [hn]at hn0 hl15 hlt ⊢
  rw [hvv]at hv ⊢
  have hvl:(I2 ls)[t]? =some v:=by simp [I2,ht,hvv]
  refine Aj ?_
  refine BD (fun k=>k) (fun k=>[(0,.pointer (some ⟨p,0,none⟩)),(1,.pointer (some ⟨q,0,none⟩)),(2,.int .i64 (t:Int)),(8,.int .i64 ((k:Int)-1))])
   (fun (k:Nat) hp=>St B h0 hp (EN q (bs++Bh (v/2^k) (n-k))::CO p ls::F)∧k≤n)
   n (.cons rfl (.cons rfl (.cons rfl (.cons (congrArg (fun x:Int=>some (Value.int .i64 x)) (by omega)) (.nil _))))) ⟨by rw [Nat.sub_self,Bh,List.append_nil];exact st,Nat.le_refl _⟩ ?_
  clear st
  rintro k hp ⟨st,hk⟩
  refine AL ?_
  refine AK rfl (fun h=> ?_) (fun h=> ?_)
  ·obtain ⟨j,rfl⟩:∃j,k=j+1:=⟨k-1,by omega⟩
   obtain ⟨va,vb,vo,so⟩:=(st.perm (List.Perm.swap _ _ _)).code
   obtain ⟨A,m,c,rfl,hlen,_,_,hrd⟩:=so.row 2 rfl
   obtain ⟨gA,oA,rfl,hcA⟩:=hrd.at_ (by rw [z3,W3];omega)
   rw [z3,W3]at hlen
   have hci:=hcA t (nV v) (F4 hvl)
   have hyl:v/2^j≤32768:=zw (Nat.div_le_self v (2^j)) (by omega)
   obtain ⟨y,hy⟩:∃y,v/2^j=y:=⟨_,rfl⟩
   rw [hy]at hyl
   have hln:(bs++Bh (v/2^(j+1)) (n - (j+1))).length≤1099511627776:=by rw [z2,Dp];omega
   refine AP ?_
   refine xc so 0 1 ?_
   refine AB ?_
   refine xl (hci) rfl (AC ?_)
   refine AT (.int .i64 (j:Int)) (congrArg (Value.int .i64) (by omega)) ?_
   refine xa (EK (m:=v) j rfl rfl (by simp only [IntKind.bits];omega)) ?_
   refine AT (.int .i64 (y:Int)) (by rw [hy]) ?_
   refine xa (Pv (m:=y) (n:=1) rfl rfl (by simp only [AI];omega) (by simp [AI])) ?_
   refine AT (.int .i64 ((y%2:Nat):Int)) (by rw [Nat.and_one_is_mod]) ?_
   refine xa (Bj (k':= .u32) rfl rfl (by simp only [AI];omega)) ?_
   refine xk (ME (n:=y%2) (k:=1) st.here (by omega) hln) rfl ?_
   rintro _ hp ⟨rfl,st2⟩
   replace st:=st.trans st2
   refine AH ?_
   refine AT (.int .i64 ((j:Int)-1)) (congrArg (Value.int .i64) (by omega)) (AB ?_)
   refine Ad j (Bt rfl rfl rfl rfl) ⟨?_,by omega⟩ (by omega)
   rw [show wd 32 1=1 from rfl,BM,BM,z8]at st
   rw [show n-j=(n - (j+1))+1 by omega,Bh,Nat.div_div_eq_div_mul,←Nat.pow_succ,hy]
   rw [show (y%2%2==1)=(y%2==1) by rw [Nat.mod_mod]]at st
   exact st
  ·refine AL ?_
   obtain rfl:k=0:=by omega
   rw [Nat.pow_zero,Nat.div_one]at st
   exact ⟨by rw [decide_eq_true hn0];rfl,st⟩
theorem Ut {B p v n:Nat} {ls:List Nat} {F:List AE} {hb h0:AA} (st:St B hb h0 (CO p ls::F)) (hok:Bi ls) (hn:n≤15) (hv:v<2^n):
  AG Tryz.prog 312 [.pointer (some ⟨p,0,none⟩),.int .i64 (v:Int),.int .i64 (n:Int)] h0 fun w h'=>w= .bool (L6 ls v n)∧h0=h':=by
 obtain ⟨va,vb,vo,so⟩:=st.code
 refine Bg Tryz.func312 rfl fun _=>By ?_
 refine BD (fun k=>17-k) (fun k=>[(0,.pointer (some ⟨p,0,none⟩)),(1,.int .i64 (v:Int)),(2,.int .i64 (n:Int)),(7,.int .i64 (k:Int))])
  (fun (k:Nat) hp=>hp=h0∧n<k∧k≤16∧∀j,n<j→j<k→¬K5 ls v n j)
  (n+1) (Bt rfl rfl rfl rfl) ⟨rfl,by omega,by omega,fun j h1 h2=>by omega⟩ ?_
 rintro k hp ⟨rfl,hk1,hk2,hno⟩
 refine AL ?_
 refine AK rfl (fun h=> ?_) (fun h=> ?_)
 ·have hk:k≤15:=by omega
  have hbd:=LJ hok hk
  have hpk:2^n*2^(k-n)=2^k:=by rw [←Nat.pow_add,show n+(k-n)=k by omega]
  have hpk2:2^k≤32768:=Nat.pow_le_pow_right (n:=2) (by omega) hk
  have hpos:0<2^(k-n):=Nat.pow_pos (by omega)
  have hv1:(v+1)*2^(k-n)≤32768:=zw (Nat.mul_le_mul_right _ hv) (by omega)
  have hv0:v*2^(k-n)≤32768:=zw (Nat.mul_le_mul_right _ (by omega)) hv1
  have hgm:(E7 ls)[k]? =some (cn ls k):=by simp [E7,show k<16 by omega]
  have hgf:(EQ ls 16)[k]? =some (fst ls k):=by simp [EQ,show k<16 by omega]
  have hvn:v<32768:=Nat.lt_of_lt_of_le hv (Nat.pow_le_pow_right (n:=2) (by omega) hn)
  refine AJ ?_
  refine El (Ck [(6,.pure),(9,.pure),(10,.pure)]) (by kernel_rfl) (by kernel_rfl) (AF ?_)
  refine xa (Bk (m:=k) (n:=n) rfl rfl (by omega) (by simp only [AI];omega)) ?_
  refine xa (GT (m:=v) (k-n) rfl rfl (by simp only [IntKind.bits];omega) (by simp only [AI];omega)) (AB ?_)
  refine AT (.int .i64 ((v+1:Nat):Int)) rfl (AB ?_)
  refine xa (Bk (m:=k) (n:=n) rfl rfl (by omega) (by simp only [AI];omega)) ?_
  refine xa (GT (m:=v+1) (k-n) rfl rfl (by simp only [IntKind.bits];omega) (by simp only [AI];omega)) (Aj ?_)
  first | refine AD (F6 rfl rfl rfl (by omega)) rfl rfl ?_ | refine AD (Fk rfl rfl rfl (by omega)) rfl rfl ?_ | refine AD (FQ rfl rfl rfl (by omega)) rfl rfl ?_
  refine xl (so.cell 0 (i:=18+k) rfl ((JF (Ec _ _) (by rw [HC];omega)).trans (F4 hgm))) rfl (AB ?_)
  refine Am 34 rfl (fun h=> ?_) (fun h=> ?_)
  ·refine AJ ?_
   first | refine AD (F6 rfl rfl rfl (by omega)) rfl rfl ?_ | refine AD (Fk rfl rfl rfl (by omega)) rfl rfl ?_ | refine AD (FQ rfl rfl rfl (by omega)) rfl rfl ?_
   refine xl (so.cell 0 (i:=2+k) rfl ((Oq (by rw [Ec];omega)).trans (F4 hgf))) rfl (AJ ?_)
   refine Am 44 rfl (fun h=> ?_) (fun h=> ?_)
   ·refine AJ ?_
    first | refine AD (F6 rfl rfl rfl (by omega)) rfl rfl ?_ | refine AD (Fk rfl rfl rfl (by omega)) rfl rfl ?_ | refine AD (FQ rfl rfl rfl (by omega)) rfl rfl ?_
    refine xl (so.cell 0 (i:=2+k) rfl ((Oq (by rw [Ec];omega)).trans (F4 hgf))) rfl (AJ ?_)
    first | refine AD (F6 rfl rfl rfl (by omega)) rfl rfl ?_ | refine AD (Fk rfl rfl rfl (by omega)) rfl rfl ?_ | refine AD (FQ rfl rfl rfl (by omega)) rfl rfl ?_
    refine xl (so.cell 0 (i:=18+k) rfl ((JF (Ec _ _) (by rw [HC];omega)).trans (F4 hgm))) rfl (AH ?_)
    refine AK rfl (fun h=> ?_) (fun h=> ?_)
    ·refine AH ?_
     have hbg:K5 ls v n k:=⟨by omega,by omega,by omega⟩
     refine ⟨congrArg Value.bool (Eq.symm ?_),rfl⟩
     exact Bool.eq_false_iff.2 fun hh=>L7.1 hh k hk1 (by omega) hbg
    ·refine AO ?_
     exact Ad (k+1) (Bt rfl rfl rfl rfl) ⟨rfl,by omega,by omega,fun j h1 h2=>by
      rcases Nat.lt_or_ge j k with h3 | h3
      ·exact hno j h1 h3
      ·obtain rfl:j=k:=by omega
       rintro ⟨b1,b2,b3⟩;omega⟩ (by omega)
   ·refine IV ?_
    exact Ad (k+1) (Bt rfl rfl rfl rfl) ⟨rfl,by omega,by omega,fun j h1 h2=>by
     rcases Nat.lt_or_ge j k with h3 | h3
     ·exact hno j h1 h3
     ·obtain rfl:j=k:=by omega
      rintro ⟨b1,b2,b3⟩;omega⟩ (by omega)
  ·refine iO ?_
   exact Ad (k+1) (Bt rfl rfl rfl rfl) ⟨rfl,by omega,by omega,fun j h1 h2=>by
    rcases Nat.lt_or_ge j k with h3 | h3
    ·exact hno j h1 h3
    ·obtain rfl:j=k:=by omega
     rintro ⟨b1,b2,b3⟩;omega⟩ (by omega)
 ·refine AL ?_
  exact ⟨congrArg Value.bool (L7.2 fun j h1 h2=>hno j h1 (by omega)).symm,rfl⟩
theorem bj (bs:List Bool) (a j:Nat) (hj:j<15) (h:j < (bs.drop a).length):CB bs a 15/2^j%2=((bs.drop a)[j]).toNat:=by
 unfold CB
 rw [←Wy,List.drop_take,List.drop_eq_getElem_cons h,show 15-j=(14-j)+1 by omega,List.take_succ_cons,BS]
 have:((bs.drop a)[j]).toNat≤1:=Bool.toNat_le _
 omega
theorem cW {ls:List Nat} {n j:Nat} (h1:1≤n) (h2:n≤15) (hj:j<cn ls n):(Ds ls 16)[(Ds ls n).length+j]? =some (Fr ls n j):=by
 have hlen:(Dr ls n ls.length).length=cn ls n:=by rw [Im ls n _ (Nat.le_refl _),List.take_length,Mp ls (by omega)]
 have key:∀d,n+1+d≤16→∃r,Ds ls (n+1+d)=Ds ls n++Dr ls n ls.length++r:=by
  intro d
  induction d with
  | zero=>intro _;exact ⟨[],by rw [Nat.add_zero,L4 ls h1,List.append_nil]⟩
  | succ d ih=>
   intro hd
   obtain ⟨r,hr⟩:=ih (by omega)
   exact ⟨r++Dr ls (n+1+d) ls.length,by rw [←Nat.add_assoc,L4 ls (by omega),hr,z8 (_++_)]⟩
 obtain ⟨r,hr⟩:=key (15-n) (by omega)
 rw [show n+1+(15-n)=16 by omega]at hr
 rw [hr,z8,zh (by omega),Nat.add_sub_cancel_left,zi (by omega)]
 unfold Fr
 rw [List.getD,z9 (by omega)];rfl
theorem cX {ls:List Nat} {n:Nat} (h1:1≤n):(Ds ls (n+1)).length=(Ds ls n).length+cn ls n:=by
 rw [L4 ls h1,z2,Im ls n _ (Nat.le_refl _),List.take_length,Mp ls (by omega)]
theorem SN {B p q m c a:Nat} {A:Option Addr} {l:List UInt8} {ls:List Nat} {F:List AE} {h0:AA} (st:St B h0 h0 (Cn q A m c a::CO p ls::F)) (hok:Bi ls)
  (hr:Rd h0 A (l.map AN)) (hl:l.length=m) (hm:m≤1099511627776) (ha:a≤8*m):
  AG Tryz.prog 285 [.pointer (some ⟨p,0,none⟩),.pointer (some ⟨q,0,none⟩)] h0
   fun v h'=>v=Al [.int .i64 ((BJ ls ((AR l).drop a)).1:Nat),.int .i64 ((BJ ls ((AR l).drop a)).2.2:Nat)]∧St B h0 h' (Cn q A m c (a+(BJ ls ((AR l).drop a)).2.1)::CO p ls::F):=by
 have hbl:((AR l).drop a).length=8*m-a:=by rw [z7,Gk,hl]
 have htk:BJ ls ((AR l).drop a)=GF ls ((AR l).drop a) (min (8*m-a) 15) 16 1:=by unfold BJ;rw [hbl]
 have hbit:=bj (AR l) a
 have hnum:=Il (AR l) a 15
 obtain ⟨bs,hbs⟩:∃bs,(AR l).drop a=bs:=⟨_,rfl⟩
 rw [hbs]at hbl htk hbit ⊢
 obtain ⟨T,hT⟩:∃T,BJ ls bs=T:=⟨_,rfl⟩
 rw [hT]at htk ⊢
 obtain ⟨lf,hlf⟩:∃lf,min (8*m-a) 15=lf:=⟨_,rfl⟩
 rw [hlf]at htk
 obtain ⟨va,vb,vo,so⟩:=(st.perm (List.Perm.swap _ _ _)).code
 have hob:∀n,1≤n→(Ds ls (n+1)).length=(Ds ls n).length+cn ls n:=fun n h=>cX h
 have hol:∀n,1≤n→n≤16→(Ds ls n).length≤4800:=by
  intro n h1 h2
  obtain ⟨k,rfl⟩:∃k,n=k+1:=⟨n-1,by omega⟩
  have:=P4 ls k
  have:=Nat.mul_le_mul (show k≤15 by omega) hok.2.1
  omega
 refine Ac Tryz.func285 rfl fun _=>AH ?_
 refine Hx rfl (fun _ _ _ hh=>hh) (Cp ?_)
 refine xk (QU (st.cell 0 rfl rfl) (st.cell 0 rfl rfl) hm ha) rfl ?_
 rintro _ _ ⟨rfl,rfl⟩
 refine AC ?_
 refine AT (.int .i64 (lf:Int)) (congrArg (Value.int .i64) (by omega)) (AH ?_)
 refine xk (QX (k:=15) (st.cell 0 rfl rfl) (st.cell 0 rfl rfl) hr hl hm ha) rfl ?_
 rintro _ _ ⟨rfl,rfl⟩
 refine Fv ?_
 refine BD (fun n=>17-n) (fun n=>[(0,.pointer (some ⟨p,0,none⟩)),(1,.pointer (some ⟨q,0,none⟩)),(6,.int .i64 (lf:Int)),(7,.int .u32 (CB (AR l) a 15:Nat)),(8,.int .i64 2),(9,.int .i64 (CZ (bs.take (n-1)):Nat)),(10,.int .i64 ((Ds ls n).length:Nat)),(11,.int .i64 (n:Int))])
  (fun (n:Nat) hp=>hp=h0∧1≤n∧n≤lf+1∧T=GF ls bs lf (17-n) n)
  1 (FF rfl rfl rfl rfl rfl rfl rfl rfl) ⟨rfl,by omega,by omega,htk⟩ ?_
 rintro n hp ⟨rfl,hn1,hn2,hgo⟩
 refine AO ?_
 refine AK rfl (fun h=> ?_) (fun h=> ?_)
 ·have hnl:n≤lf:=by omega
  have hn15:n≤15:=by omega
  have hbd:=LJ hok hn15
  have hgm:(E7 ls)[n]? =some (cn ls n):=by simp [E7,show n<16 by omega]
  have hgf:(EQ ls 16)[n]? =some (fst ls n):=by simp [EQ,show n<16 by omega]
  have hb:=hbit (n-1) (by omega) (by omega)
  have hyl:CB (AR l) a 15/2^(n-1)≤32768:=zw (Nat.div_le_self _ _) (by omega)
  obtain ⟨y,hy⟩:∃y,CB (AR l) a 15/2^(n-1)=y:=⟨_,rfl⟩
  rw [hy]at hyl hb
  have htv:CZ (bs.take n)=CZ (bs.take (n-1))*2+(bs[n-1]'(by omega)).toNat:=by
   have:=Wt bs (n:=n-1) (by omega)
   rwa [show n-1+1=n by omega]at this
  have hlt:=Ws bs n
  have hlt2:2^n≤32768:=Nat.pow_le_pow_right (n:=2) (by omega) hn15
  obtain ⟨g,hg⟩:∃g,17-n=g+1:=⟨16-n,by omega⟩
  rw [hg,GF,if_neg (by omega)]at hgo
  have hon:=hob n hn1
  have holn:=hol n hn1 (by omega)
  refine AL ?_
  refine xa (D0 (m:=CZ (bs.take (n-1))) (n:=2) rfl rfl (by simp only [AI];omega)) (AB ?_)
  refine xa (Bk (m:=n) (n:=1) rfl rfl (by omega) (by simp only [AI];omega)) ?_
  refine xa (EK (m:=CB (AR l) a 15) (n-1) rfl rfl (by simp only [IntKind.bits];omega)) ?_
  refine AT (.int .u32 (y:Int)) (by rw [hy]) ?_
  refine xa (Pv (m:=y) (n:=1) rfl rfl (by simp only [AI];omega) (by simp [AI])) ?_
  refine AT (.int .u32 (((bs[n-1]'(by omega)).toNat:Nat):Int)) (by rw [Nat.and_one_is_mod,←hb]) ?_
  refine xa (Bj (k':= .i64) rfl rfl (by have:(bs[n-1]'(by omega)).toNat≤1:=Bool.toNat_le _;simp only [AI];omega)) ?_
  refine xa (CH (m:=CZ (bs.take (n-1))*2) (n:=(bs[n-1]'(by omega)).toNat) rfl rfl (by simp only [AI];omega)) ?_
  refine AT (.int .i64 ((CZ (bs.take n):Nat):Int)) (by rw [htv]) (BP ?_)
  first | refine AD (F6 rfl rfl rfl (by omega)) rfl rfl ?_ | refine AD (Fk rfl rfl rfl (by omega)) rfl rfl ?_ | refine AD (FQ rfl rfl rfl (by omega)) rfl rfl ?_
  refine xl (so.cell 0 (i:=2+n) rfl ((Oq (by rw [Ec];omega)).trans (F4 hgf))) rfl (Aj ?_)
  refine Am 49 rfl (fun h=> ?_) (fun h=> ?_)
  ·refine AH ?_
   first | refine AD (F6 rfl rfl rfl (by omega)) rfl rfl ?_ | refine AD (Fk rfl rfl rfl (by omega)) rfl rfl ?_ | refine AD (FQ rfl rfl rfl (by omega)) rfl rfl ?_
   refine xl (so.cell 0 (i:=18+n) rfl ((JF (Ec _ _) (by rw [HC];omega)).trans (F4 hgm))) rfl (AJ ?_)
   refine AK rfl (fun h=> ?_) (fun h=> ?_)
   ·have hhit:Hd ls (CZ (bs.take n)) n:=⟨by omega,by omega⟩
    rw [if_pos hhit]at hgo
    subst hgo
    have hwd:wd 32 (n:Int)=n:=by unfold wd;omega
    refine AJ ?_
    refine xk (Vi (k:=(n:Int)) st hm ha) rfl ?_
    rintro _ hp ⟨_,st⟩
    rw [hwd,if_pos (by omega)]at st
    obtain ⟨va,vb,vo,so⟩:=(st.perm (List.Perm.swap _ _ _)).code
    obtain ⟨A4,n4,c4,rfl,hlen4,_,_,hrd4⟩:=so.row 3 rfl
    have hoa:=cW (ls:=ls) (n:=n) (j:=CZ (bs.take n)-fst ls n) hn1 hn15 (by omega)
    have hol4:=(zc.1 hoa).1
    rw [z3]at hlen4
    obtain ⟨g4,o4,rfl,hcA⟩:=hrd4.at_ (by rw [z3];omega)
    refine AL ?_
    refine xl (so.cell 0 (i:=34) rfl (SD (Ec _ _) (HC _))) rfl (AF ?_)
    refine AT (.int .i64 (((Ds ls n).length+(CZ (bs.take n)-fst ls n):Nat):Int)) (congrArg (Value.int .i64) (by omega)) (AC ?_)
    refine xl (hcA _ _ (F4 hoa)) rfl (AJ ?_)
    exact ⟨rfl,st⟩
   ·refine AC ?_
    have hnh:¬Hd ls (CZ (bs.take n)) n:=by rintro ⟨h1,h2⟩;omega
    rw [if_neg hnh]at hgo
    refine AJ ?_
    refine xk (Ut (st.perm (List.Perm.swap _ _ _)) hok hn15 hlt) rfl ?_
    rintro _ _ ⟨rfl,rfl⟩
    refine AB ?_
    refine C6 rfl (fun h=> ?_) (fun h=> ?_)
    ·rw [if_pos h]at hgo
     subst hgo
     refine By ?_
     exact ⟨rfl,st⟩
    ·rw [if_neg (by rw [h];simp)]at hgo
     refine AP ?_
     first | refine AD (F6 rfl rfl rfl (by omega)) rfl rfl ?_ | refine AD (Fk rfl rfl rfl (by omega)) rfl rfl ?_ | refine AD (FQ rfl rfl rfl (by omega)) rfl rfl ?_
     refine xl (so.cell 0 (i:=18+n) rfl ((JF (Ec _ _) (by rw [HC];omega)).trans (F4 hgm))) rfl (AC ?_)
     refine AT (.int .i64 ((Ds ls (n+1)).length:Nat)) (by rw [hon]) (AP ?_)
     exact Ad (n+1) (FF rfl rfl rfl rfl rfl rfl rfl rfl) ⟨rfl,by omega,by omega,by rw [hgo,show 17 - (n+1)=g by omega]⟩ (by omega)
  ·refine B3 ?_
   have hnh:¬Hd ls (CZ (bs.take n)) n:=by rintro ⟨h1,h2⟩;omega
   rw [if_neg hnh]at hgo
   refine AJ ?_
   refine xk (Ut (st.perm (List.Perm.swap _ _ _)) hok hn15 hlt) rfl ?_
   rintro _ _ ⟨rfl,rfl⟩
   refine AB ?_
   refine C6 rfl (fun h=> ?_) (fun h=> ?_)
   ·rw [if_pos h]at hgo
    subst hgo
    refine By ?_
    exact ⟨rfl,st⟩
   ·rw [if_neg (by rw [h];simp)]at hgo
    refine AP ?_
    first | refine AD (F6 rfl rfl rfl (by omega)) rfl rfl ?_ | refine AD (Fk rfl rfl rfl (by omega)) rfl rfl ?_ | refine AD (FQ rfl rfl rfl (by omega)) rfl rfl ?_
    refine xl (so.cell 0 (i:=18+n) rfl ((JF (Ec _ _) (by rw [HC];omega)).trans (F4 hgm))) rfl (AC ?_)
    refine AT (.int .i64 ((Ds ls (n+1)).length:Nat)) (by rw [hon]) (AP ?_)
    exact Ad (n+1) (FF rfl rfl rfl rfl rfl rfl rfl rfl) ⟨rfl,by omega,by omega,by rw [hgo,show 17 - (n+1)=g by omega]⟩ (by omega)
 ·rw [fd (by omega)]at hgo
  subst hgo
  refine AP ?_
  exact ⟨rfl,st⟩
def GP (li:List Int):Int:=if D5 li then 0 else 13
theorem Oz {li:List Int}:GP li=0↔D5 li:=by unfold GP;split <;> simp [*]
theorem St.behind {h0 hp h':AA} {r:AE} (hx:AV h0 hp) (st:St hp.size hp h' [r]):St h0.size h0 h' [r]:=((St.start h0).ext hx).join st
theorem KC {n c:Nat} {A:Option Addr} {li:List Int} {h0:AA} (hr:Rd h0 A (li.map iV)) (hl:li.length=n) (hn:n≤17592186044416):
  AG Tryz.prog 236 [.slice A n c] h0 fun v h'=>
   ∃w,v=Al [w,.int .i64 (GP li)]∧AV h0 h'∧(D5 li→∃p,w= .pointer (some ⟨p,0,none⟩)∧St h0.size h0 h' [CO p (li.map Int.toNat)])∧(¬D5 li→w= .pointer none):=by
 refine BE Tryz.func236 rfl fun _=>Aj ?_
 refine xk (Y9 hr hl hn) rfl ?_
 rintro _ hp ⟨rfl,hx⟩
 refine AB ?_
 refine C6 rfl (fun h=> ?_) (fun h=> ?_)
 ·refine AL ?_
  have hR:¬D5 li:=by simpa using h
  exact ⟨_,by unfold GP;rw [if_neg hR],hx,fun hh=>absurd hh hR,fun _=>rfl⟩
 ·have hR:D5 li:=by simpa using h
  have e:=Qx fun x hx=>(hR.2.1.2 x hx).1
  have hr2:Rd h0 A ((li.map Int.toNat).map nV):=by rw [Hl,e];exact hr
  refine AJ ?_
  refine xk (YZ (ls:=li.map Int.toNat) (hr2.ext hx) (by rw [z3];exact hl) hR.ok) rfl ?_
  rintro _ hp2 ⟨p,rfl,st⟩
  refine AJ ?_
  exact ⟨_,by unfold GP;rw [if_pos hR],hx.trans st.low,fun _=>⟨p,rfl,St.behind hx st⟩,fun hh=>absurd hR hh⟩
end Go.Bn
end

section
namespace Go.Bn
def KP (x:Int):Nat→List Bool
  | 0=>[]
  | k+1=>KP x k++[x/2^k%2==1]
def Wl (x:Int) (k:Nat):Nat:=CZ (KP x k)
def G3 (v n:Nat):Nat:=Wl (v:Int) n
theorem aw (x:Int):∀k,(KP x k).length=k
 | 0=>rfl
 | k+1=>by simp [KP,aw x k]
theorem T3 (v:Nat):∀k,KP (v:Int) k=BM k v
 | 0=>rfl
 | k+1=>by
  rw [KP,T3 v k,YK]
  congr 2
  have:((v:Int)/2^k%2)=((v/2^k%2:Nat):Int):=by
   rw [Int.natCast_emod,Int.natCast_ediv,Int.natCast_pow];rfl
  rw [this]
  generalize v/2^k%2=y
  by_cases h:y=1
  ·subst h;rfl
  ·rw [beq_eq_false_iff_ne.2 h,beq_eq_false_iff_ne.2 (by omega)]
theorem OH:∀l:List Bool,CZ l.reverse=BS l
 | []=>rfl
 | b::r=>by rw [List.reverse_cons,Qz,OH r,BS];omega
theorem Rv:∀ (n v:Nat),(Bh v n).reverse=BM n v
 | 0,_=>rfl
 | n+1,v=>by rw [Bh,List.reverse_append,Rv n];rfl
theorem Wm (v n:Nat):G3 v n=BS (Bh v n):=by
 unfold G3 Wl
 rw [T3,←Rv,OH]
theorem Wn (v n:Nat):G3 v n<2^n:=by
 have:=J1 (Bh v n)
 rwa [Dp,←Wm]at this
theorem Mi (v n:Nat):BM n (G3 v n)=Bh v n:=by
 have:=Ic (Bh v n)
 rwa [Dp,←Wm]at this
abbrev QC:=Nat×Nat×Nat
def Ot (ls:List Nat) (s:Nat):List QC:=if ls.getD s 0=0 then []else [(s,G3 (val ls s) (ls.getD s 0),ls.getD s 0)]
def SG (ls:List Nat) (i:Nat):List QC:=(List.range i).flatMap (Ot ls)
def GY (ls:List Nat):List QC:=SG ls ls.length
structure RO (Q:List QC):Prop where
  len:∀c∈Q,1≤c.2.2∧c.2.2≤15
  bits:∀c∈Q,c.2.1<2^c.2.2
  apart:∀c∈Q,∀c'∈Q,c.2.2≤c'.2.2→c'.2.1%2^c.2.2=c.2.1→c=c'
theorem Gr {ls:List Nat} {c:QC}:c∈GY ls↔∃s,∃h:s<ls.length,ls[s]≠0∧c=(s,G3 (val ls s) ls[s],ls[s]):=by
 unfold GY SG
 rw [List.mem_flatMap]
 constructor
 ·rintro ⟨s,hs,hc⟩
  have hs:s<ls.length:=List.mem_range.1 hs
  unfold Ot at hc
  rw [E9 hs]at hc
  split at hc
  ·cases hc
  ·rename_i h0
   exact ⟨s,hs,h0,by simpa using hc⟩
 ·rintro ⟨s,hs,h0,rfl⟩
  refine ⟨s,List.mem_range.2 hs,?_⟩
  unfold Ot
  rw [E9 hs,if_neg h0];simp
theorem Oe:∀ (n m x:Nat),n≤m→(BM m x).take n=BM n x:=by
 intro n m x h
 obtain ⟨d,rfl⟩:∃d,m=n+d:=⟨m-n,by omega⟩
 rw [KA,List.take_append_of_le_length (by rw [DE];omega),za (by rw [DE];omega)]
theorem Ru {n x y:Nat} (hx:x<2^n) (hy:y<2^n) (h:BM n x=BM n y):x=y:=by
 have:=congrArg BS h
 rwa [J0,J0,Nat.mod_eq_of_lt hx,Nat.mod_eq_of_lt hy]at this
theorem T9 {v n x:Nat}:x%2^n=G3 v n↔BM n x=Bh v n:=by
 constructor
 ·intro h
  rw [←Mi,←h,JB]
 ·intro h
  refine Ru (n:=n) (Nat.mod_lt _ (Nat.pow_pos (by omega))) (Wn v n) ?_
  rw [JB,Mi,h]
theorem dg {ls:List Nat} (hok:Bi ls):RO (GY ls):=by
 constructor
 ·intro c hc
  obtain ⟨s,hs,h0,rfl⟩:=Gr.1 hc
  have:=hok.2.2.1 ls[s] (List.getElem_mem hs)
  simp only;omega
 ·intro c hc
  obtain ⟨s,hs,h0,rfl⟩:=Gr.1 hc
  exact Wn _ _
 ·intro c hc c' hc' hle hm
  obtain ⟨s,hs,h0,rfl⟩:=Gr.1 hc
  obtain ⟨s',hs',h0',rfl⟩:=Gr.1 hc'
  simp only at hle hm ⊢
  by_cases he:s=s'
  ·subst he;rfl
  ·exfalso
   rw [T9,←Oe _ _ _ hle,Mi,Mq _ _ _ hle]at hm
   have h15:=hok.2.2.1 ls[s] (List.getElem_mem hs)
   have h15':=hok.2.2.1 ls[s'] (List.getElem_mem hs')
   have h1:=HP hok hs h0
   have h2:=HP hok hs' h0'
   have hb1:=KI hok h15
   have hb2:=KI hok h15'
   have e:=congrArg CZ hm
   rw [Iy,Iy,Nat.mod_eq_of_lt (by omega:val ls s<2^ls[s])]at e
   rw [Nat.mod_eq_of_lt]at e
   ·exact gR hok hs hs' he h0 h0' hle e.symm
   ·refine (Nat.div_lt_iff_lt_mul (Nat.pow_pos (by omega))).2 ?_
    rw [←Nat.pow_add,show ls[s]+(ls[s']-ls[s])=ls[s'] by omega];omega
def JO (x:Nat) (c:QC):Bool:=x%2^c.2.2==c.2.1
theorem PI {x:Nat} {c:QC}:JO x c=true↔x%2^c.2.2=c.2.1:=by unfold JO;simp
theorem LX (x:Nat) {n m:Nat} (h:n≤m):x%2^m%2^n=x%2^n:=Nat.mod_mod_of_dvd x (Nat.pow_dvd_pow 2 h)
theorem Z4 {Q:List QC} (h:RO Q) {x:Nat} {c c':QC} (hc:c∈Q) (hc':c'∈Q) (h1:JO x c=true) (h2:JO x c'=true):c=c':=by
 rw [PI]at h1 h2
 rcases Nat.le_total c.2.2 c'.2.2 with hle | hle
 ·exact h.apart c hc c' hc' hle (by rw [←h2,LX x hle,h1])
 ·exact (h.apart c' hc' c hc hle (by rw [←h1,LX x hle,h2])).symm
theorem Ss {α:Type} {p:α→Bool} {l:List α} (h:∀c∈l,p c=false):l.find? p=none:=List.find?_eq_none.2 fun c hc=>by rw [h c hc];simp
theorem Ze {α:Type} {p:α→Bool} {l:List α} {c:α} (hc:c∈l) (hp:p c=true) (hu:∀d∈l,p d=true→d=c):l.find? p=some c:=by
 cases h:l.find? p with
 | none=>exact absurd hp (by have:=List.find?_eq_none.1 h c hc;simpa using this)
 | some d=>rw [hu d (List.mem_of_find?_eq_some h) (List.find?_some h)]
end Go.Bn
end

section
namespace Go.Bn
def J9 (left x:Nat) (c:QC):Bool:=decide (left<c.2.2)&&(c.2.1%2^left==x%2^left)
def Kh (Q:List QC) (left x:Nat):Bool:=Q.any (J9 left x)
theorem Oc {left x:Nat} {c:QC}:J9 left x c=true↔left<c.2.2∧c.2.1%2^left=x%2^left:=by unfold J9;simp
theorem WB {Q:List QC} {left x:Nat} {c:QC} (hc:c∈Q) (h:J9 left x c=true):Kh Q left x=true:=List.any_eq_true.2 ⟨c,hc,h⟩
theorem eZ {Q:List QC} {left x:Nat} (h:∀c∈Q,J9 left x c=false):Kh Q left x=false:=by
 unfold Kh
 rw [List.any_eq_false]
 intro c hc;rw [h c hc];simp
def Hj (bs:List Bool) (c:QC):Bool:=decide (c.2.2≤bs.length)&&JO (BS (bs.take 15)) c
def Ix (Q:List QC) (bs:List Bool):Nat×Nat×Nat:=match Q.find? (Hj bs)with
  | some c=>(c.1,c.2.2,0)
  | none=>if Kh Q bs.length (BS (bs.take 15))=true then (0,0,2)else (0,0,13)
theorem NQ {bs:List Bool} {c:QC}:Hj bs c=true↔c.2.2≤bs.length∧JO (BS (bs.take 15)) c=true:=by unfold Hj;simp
theorem UP {ls:List Nat} {n:Nat}:∀ (t j s:Nat),t≤ls.length→(Dr ls n t)[j]? =some s→∃h:s<ls.length,ls[s]=n∧(ls.take s).count n=j
 | 0,j,s,_,h=>by simp [Dr]at h
 | t+1,j,s,ht,h=>by
  rw [La (by omega)]at h
  have hlen:=Im ls n t (by omega)
  rcases Nat.lt_or_ge j (Dr ls n t).length with h1 | h1
  ·rw [zi h1]at h
   exact UP t j s (by omega) h
  ·rw [zh h1]at h
   split at h
   ·rename_i he
    have hj:j - (Dr ls n t).length=0:=by
     have:=(zc.1 h).1
     simp at this;omega
    rw [hj]at h
    obtain rfl:t=s:=by simpa using h
    exact ⟨by omega,he,by omega⟩
   ·simp at h
theorem fV {ls:List Nat} {n j:Nat} (hn:n≠0) (hj:j<cn ls n):∃h:Fr ls n j<ls.length,ls[Fr ls n j]=n∧(ls.take (Fr ls n j)).count n=j:=by
 have hlen:(Dr ls n ls.length).length=cn ls n:=by rw [Im ls n _ (Nat.le_refl _),List.take_length,Mp ls hn]
 have hg:(Dr ls n ls.length)[j]? =some (Fr ls n j):=by
  unfold Fr
  rw [List.getD,z9 (by omega)];rfl
 exact UP ls.length j _ (Nat.le_refl _) hg
theorem TK {ls:List Nat} {v n:Nat} (hn:n≠0) (h:Hd ls v n):∃hs:Fr ls n (v-fst ls n)<ls.length,ls[Fr ls n (v-fst ls n)]=n∧val ls (Fr ls n (v-fst ls n))=v:=by
 obtain ⟨h1,h2⟩:=h
 obtain ⟨hs,e1,e2⟩:=fV (ls:=ls) (n:=n) (j:=v-fst ls n) hn (by omega)
 refine ⟨hs,e1,?_⟩
 rw [OI hs (by rw [e1];exact hn),e1,e2];omega
theorem Of (bs:List Bool) {n:Nat} (hn:n≤15) (hl:n≤bs.length):BM n (BS (bs.take 15))=bs.take n:=by
 have h1:=Ic (bs.take 15)
 have h2:=Oe n (bs.take 15).length (BS (bs.take 15)) (by rw [z6];omega)
 rw [←h2,h1,List.take_take,Nat.min_eq_left hn]
theorem Wr:∀ {n:Nat} {a b:List Bool},a.length=n→b.length=n→CZ a=CZ b→a=b:=by
 intro n a b ha hb h
 have h1:=OH a.reverse
 have h2:=OH b.reverse
 rw [List.reverse_reverse]at h1 h2
 have e:BS a.reverse=BS b.reverse:=by rw [←h1,←h2,h]
 have h3:=Ic a.reverse
 have h4:=Ic b.reverse
 rw [List.length_reverse,ha]at h3
 rw [List.length_reverse,hb]at h4
 rw [←List.reverse_inj,←h3,←h4,e]
theorem PJ {ls:List Nat} (hok:Bi ls) {s:Nat} (hs:s<ls.length) (h0:ls[s]≠0) (bs:List Bool) (hl:ls[s]≤bs.length):
  JO (BS (bs.take 15)) (s,G3 (val ls s) ls[s],ls[s])=true↔CZ (bs.take ls[s])=val ls s:=by
 have h15:=hok.2.2.1 ls[s] (List.getElem_mem hs)
 have hv:=HP hok hs h0
 have hb:=KI hok h15
 rw [PI]
 simp only
 rw [T9,Of bs h15 hl]
 constructor
 ·intro e;rw [e,Iy,Nat.mod_eq_of_lt (by omega)]
 ·intro e
  refine Wr (n:=ls[s]) (by rw [z6];omega) (Dp _ _) ?_
  rw [Iy,Nat.mod_eq_of_lt (by omega),e]
theorem Od {ls:List Nat} (hok:Bi ls) {s n:Nat} (hs:s<ls.length) (h0:ls[s]≠0) (hn:n<ls[s]) (bs:List Bool) (hl:n≤bs.length):
  (G3 (val ls s) ls[s])%2^n=BS (bs.take 15)%2^n↔CZ (bs.take n)=val ls s/2^(ls[s]-n):=by
 have h15:=hok.2.2.1 ls[s] (List.getElem_mem hs)
 have hv:=HP hok hs h0
 have hb:=KI hok h15
 have hp:0<2^n:=Nat.pow_pos (by omega)
 have hd:val ls s/2^(ls[s]-n)<2^n:=by
  refine (Nat.div_lt_iff_lt_mul (Nat.pow_pos (by omega))).2 ?_
  rw [←Nat.pow_add,show n+(ls[s]-n)=ls[s] by omega];omega
 have e1:BM n (G3 (val ls s) ls[s])=Bh (val ls s/2^(ls[s]-n)) n:=by
  rw [←Oe n ls[s] _ (by omega),Mi,Mq _ _ _ (by omega)]
 constructor
 ·intro e
  have e2:BM n (G3 (val ls s) ls[s])=BM n (BS (bs.take 15)):=by rw [←JB,e,JB]
  rw [e1,Of bs (by omega) hl]at e2
  rw [←e2,Iy,Nat.mod_eq_of_lt hd]
 ·intro e
  refine Ru (n:=n) (Nat.mod_lt _ hp) (Nat.mod_lt _ hp) ?_
  rw [JB,JB,e1,Of bs (by omega) hl]
  refine Wr (n:=n) (Dp _ _) (by rw [z6];omega) ?_
  rw [Iy,Nat.mod_eq_of_lt hd,e]
theorem Us {ls:List Nat} (hok:Bi ls) {n:Nat} (v:Nat):Nr ls v n↔∀s,(hs:s<ls.length)→ls[s]≠0→n<ls[s]→val ls s/2^(ls[s]-n)≠v:=by
 constructor
 ·intro ho s hs h0 hn e
  have h15:=hok.2.2.1 ls[s] (List.getElem_mem hs)
  obtain ⟨hv2,hv1⟩:=HP hok hs h0
  have hp:0<2^(ls[s]-n):=Nat.pow_pos (by omega)
  refine ho ls[s] hn (by omega) ⟨by omega,?_,?_⟩
  ·have:=Nat.lt_div_mul_add (a:=val ls s) hp
   rw [e]at this
   rw [Nat.add_mul];omega
  ·have:=Nat.div_mul_le_self (val ls s) (2^(ls[s]-n))
   rw [e]at this;omega
 ·intro ha k hk hk2 hb
  obtain ⟨b1,b2,b3⟩:=hb
  have hp:0<2^(k-n):=Nat.pow_pos (by omega)
  -- a number in both rows
  obtain ⟨u,hu1,hu2,hu3,hu4⟩:∃u,fst ls k≤u∧u<fst ls k+cn ls k∧v*2^(k-n)≤u∧u < (v+1)*2^(k-n):=by
   rcases Nat.le_total (fst ls k) (v*2^(k-n))with h1 | h1
   ·exact ⟨v*2^(k-n),h1,b3,Nat.le_refl _,by rw [Nat.add_mul];omega⟩
   ·exact ⟨fst ls k,Nat.le_refl _,by omega,h1,b2⟩
  obtain ⟨hs,e1,e2⟩:=TK (ls:=ls) (v:=u) (n:=k) (by omega) ⟨hu1,hu2⟩
  refine ha _ hs (by rw [e1];omega) (by rw [e1];exact hk) ?_
  rw [e1,e2]
  refine Nat.le_antisymm ?_ ?_
  ·have:u/2^(k-n)<v+1:=(Nat.div_lt_iff_lt_mul hp).2 hu4
   omega
  ·exact (Nat.le_div_iff_mul_le hp).2 hu3
theorem eo {ls:List Nat} (hok:Bi ls):∃s,∃hs:s<ls.length,ls[s]≠0:=by
 refine Classical.byContradiction fun hn=> ?_
 have hz:ls.sum=0:=by
  rw [List.sum_eq_zero_iff_forall_eq_nat]
  intro x hx
  obtain ⟨s,hs,rfl⟩:=List.getElem_of_mem hx
  exact Classical.byContradiction fun h0=>hn ⟨s,hs,h0⟩
 have hk:=PS ls hz
 rcases hok.2.2.2 with h | h <;> omega
theorem Wf {ls:List Nat} (hok:Bi ls) (bs:List Bool):BJ ls bs=Ix (GY ls) bs:=by
 have hQ:=dg hok
 unfold BJ
 obtain ⟨lf,hlf⟩:∃lf,min bs.length 15=lf:=⟨_,rfl⟩
 rw [hlf]
 -- somebody has a code
 have hany:=eo hok
 -- a hit is the code that stands there
 have hhit:∀n,1≤n→n≤lf→Hd ls (CZ (bs.take n)) n→Ix (GY ls) bs=(Fr ls n (CZ (bs.take n)-fst ls n),n,0):=by
  intro n h1 h2 hh
  obtain ⟨hs,e1,e2⟩:=TK (by omega) hh
  obtain ⟨s,hse⟩:∃s,Fr ls n (CZ (bs.take n)-fst ls n)=s:=⟨_,rfl⟩
  simp only [hse]at hs e1 e2 ⊢
  have h0:ls[s]≠0:=by omega
  have hm:=(PJ hok hs h0 bs (by omega)).2 (by rw [e1,e2])
  have hf:(GY ls).find? (Hj bs)=some (s,G3 (val ls s) ls[s],ls[s]):=
   Ze (Gr.2 ⟨s,hs,h0,rfl⟩) (NQ.2 ⟨by simp only;omega,hm⟩) fun d hd hh=>Z4 hQ hd (Gr.2 ⟨s,hs,h0,rfl⟩) (NQ.1 hh).2 hm
  unfold Ix
  rw [hf]
  simp only [e1]
 have hgo:∀f n,lf+1<n+f→1≤n→n≤lf+1→(∀k,1≤k→k<n→¬Hd ls (CZ (bs.take k)) k∧¬Nr ls (CZ (bs.take k)) k)→GF ls bs lf f n=Ix (GY ls) bs:=by
  intro f
  induction f with
  | zero=>intro n h1 h2 h3;omega
  | succ f ih=>
   intro n h1 h2 h3 hno
   rw [GF]
   by_cases hl:lf<n
   ·rw [if_pos hl]
    have hnm:(GY ls).find? (Hj bs)=none:=Ss fun c hc=>by
     cases hh:Hj bs c with
     | false=>rfl
     | true=>
      obtain ⟨s,hs,h0,rfl⟩:=Gr.1 hc
      obtain ⟨h4,h5⟩:=NQ.1 hh
      simp only at h4
      have h15:=hok.2.2.1 ls[s] (List.getElem_mem hs)
      have hv:=HP hok hs h0
      have e:=(PJ hok hs h0 bs h4).1 h5
      exact absurd ⟨by rw [e];exact hv.2,by rw [e];exact hv.1⟩ (hno ls[s] (by omega) (by omega)).1
    have hsb:Kh (GY ls) bs.length (BS (bs.take 15))=true:=by
     rcases Nat.eq_zero_or_pos lf with h0 | h0
     ·obtain ⟨s,hs,hs0⟩:=hany
      have hb0:bs.length=0:=by omega
      refine WB (Gr.2 ⟨s,hs,hs0,rfl⟩) (Oc.2 ⟨by simp only;omega,?_⟩)
      rw [hb0,Nat.pow_zero,Nat.mod_one,Nat.mod_one]
     ·have hov:=(hno lf h0 (by omega)).2
      rw [Us hok]at hov
      simp only [Classical.not_forall,Classical.not_not]at hov
      obtain ⟨s,hs,hs0,hn,e⟩:=hov
      have h15:=hok.2.2.1 ls[s] (List.getElem_mem hs)
      have hbl:bs.length=lf:=by omega
      refine WB (Gr.2 ⟨s,hs,hs0,rfl⟩) (Oc.2 ⟨by simp only;omega,?_⟩)
      simp only
      rw [hbl]
      exact (Od hok hs hs0 hn bs (by omega)).2 e.symm
    unfold Ix
    rw [hnm]
    simp only
    rw [if_pos hsb]
   ·rw [if_neg hl]
    by_cases hh:Hd ls (CZ (bs.take n)) n
    ·rw [if_pos hh,hhit n h2 (by omega) hh]
    ·rw [if_neg hh]
     by_cases ho:L6 ls (CZ (bs.take n)) n=true
     ·rw [if_pos ho]
      have ho:=(Us hok _).1 (L7.1 ho)
      have hnm:(GY ls).find? (Hj bs)=none:=Ss fun c hc=>by
       cases hm:Hj bs c with
       | false=>rfl
       | true=>
        exfalso
        obtain ⟨s,hs,h0,rfl⟩:=Gr.1 hc
        obtain ⟨h4,h5⟩:=NQ.1 hm
        simp only at h4
        have h15:=hok.2.2.1 ls[s] (List.getElem_mem hs)
        have hv:=HP hok hs h0
        have e:=(PJ hok hs h0 bs h4).1 h5
        rcases Nat.lt_trichotomy ls[s] n with h6 | h6 | h6
        ·exact (hno ls[s] (by omega) h6).1 ⟨by rw [e];exact hv.2,by rw [e];exact hv.1⟩
        ·rw [←h6]at hh
         exact hh ⟨by rw [e];exact hv.2,by rw [e];exact hv.1⟩
        ·refine ho s hs h0 h6 ?_
         refine ((Od hok hs h0 h6 bs (by omega)).1 ?_).symm
         have h7:=PI.1 h5
         simp only at h7
         rw [←h7,LX _ (by omega)]
      have hsb:Kh (GY ls) bs.length (BS (bs.take 15))=false:=eZ fun c hc=>by
       cases hb:J9 bs.length (BS (bs.take 15)) c with
       | false=>rfl
       | true=>
        exfalso
        obtain ⟨s,hs,h0,rfl⟩:=Gr.1 hc
        obtain ⟨h4,h5⟩:=Oc.1 hb
        simp only at h4 h5
        refine ho s hs h0 (by omega) ?_
        refine ((Od hok hs h0 (by omega) bs (by omega)).1 ?_).symm
        have h6:=congrArg (· % 2^n) h5
        rwa [LX _ (by omega),LX _ (by omega)]at h6
      unfold Ix
      rw [hnm]
      simp only
      rw [hsb];rfl
     ·rw [if_neg ho]
      refine ih (n+1) (by omega) (by omega) (by omega) fun k hk1 hk2=> ?_
      rcases Nat.lt_or_ge k n with h6 | h6
      ·exact hno k hk1 h6
      ·obtain rfl:k=n:=by omega
       exact ⟨hh,fun h7=>ho (L7.2 h7)⟩
 exact hgo 16 1 (by omega) (by omega) (by omega) fun k h1 h2=>by omega
end Go.Bn
end

section
namespace Go.Bn
def rW (s:Nat):Nat:=if s=16 then 2 else if s=17 then 3 else if s=18 then 7 else 0
def rL (s:Nat):Nat:=if s=16 then 3 else if s=17 then 3 else if s=18 then 11 else 1
def rH (s:Nat):Nat:=if s=16 then 6 else if s=17 then 10 else if s=18 then 138 else 1
def rV (l:List Nat) (s:Nat):Nat:=if s=16 then l.getD (l.length-1) 0 else if 16<s then 0 else s
def IN (l:List Nat) (s m:Nat):List Nat:=l++List.replicate m (rV l s)
theorem QQ (s:Nat):rW s≤7:=by unfold rW;split <;> (try split) <;> (try split) <;> omega
theorem QP (s:Nat):1≤rL s:=by unfold rL;split <;> (try split) <;> (try split) <;> omega
theorem di {s n:Nat} (h:n<2^rW s):rL s+n≤rH s:=by
 unfold rW at h;unfold rL rH
 split at h
 ·simp_all;omega
 ·split at h
  ·simp_all;omega
  ·split at h
   ·simp_all;omega
   ·simp_all
theorem QO (s:Nat):rH s≤138:=by unfold rH;split <;> (try split) <;> (try split) <;> omega
theorem Nz (l:List Nat) (s m:Nat):(IN l s m).length=l.length+m:=by simp [IN]
noncomputable def F1 (ls : List Nat) (bs : List Bool) (n : Nat) : Nat → Nat → List Nat → List Nat × Nat × Nat
  | 0, _, _ => ([], 0, 3)
  | f + 1, a, l => if n ≤ l.length then (l, a, 0) else if (BJ ls (bs.drop a)).2.2 ≠ 0 then ([], 0, (BJ ls (bs.drop a)).2.2) else
    if bs.length < a + (BJ ls (bs.drop a)).2.1 + rW (BJ ls (bs.drop a)).1 then ([], 0, 2) else if (BJ ls (bs.drop a)).1 = 16 ∧ l.length = 0 then ([], 0, 3) else
    if n < l.length + (rL (BJ ls (bs.drop a)).1 + CB bs (a + (BJ ls (bs.drop a)).2.1) (rW (BJ ls (bs.drop a)).1)) then ([], 0, 3) else
      F1 ls bs n f (a + (BJ ls (bs.drop a)).2.1 + rW (BJ ls (bs.drop a)).1) (IN l (BJ ls (bs.drop a)).1 (rL (BJ ls (bs.drop a)).1 + CB bs (a + (BJ ls (bs.drop a)).2.1) (rW (BJ ls (bs.drop a)).1)))
def EH (bs:List Bool) (a i:Nat):List Nat:=(List.range 19).map fun k=>if k<i then CB bs (a+4*k) 4 else 0
theorem LR (bs:List Bool) (a i:Nat):(EH bs a i).length=19:=by simp [EH]
theorem ah (bs:List Bool) (a:Nat):EH bs a 0=List.replicate 19 0:=by
 refine List.ext_getElem (by simp [EH]) fun i h1 h2=> ?_
 simp only [EH,List.getElem_map,List.getElem_range,List.getElem_replicate]
 rw [if_neg (by omega)]
theorem ag {bs:List Bool} {a i:Nat} (hi:i<19):(EH bs a i).set i (CB bs (a+4*i) 4)=EH bs a (i+1):=by
 refine List.ext_getElem (by simp [EH]) fun k h1 h2=> ?_
 rw [List.getElem_set]
 simp only [EH,List.getElem_map,List.getElem_range]
 by_cases h:i=k
 ·subst h;rw [if_pos rfl,if_pos (by omega)]
 ·rw [if_neg h]
  by_cases h3:k<i
  ·rw [if_pos h3,if_pos (by omega)]
  ·rw [if_neg h3,if_neg (by omega)]
def Fh (bs:List Bool) (a:Nat) (ok:Bool):Nat:=if bs.length<a+9 then 2 else if CB bs a 9<1∨320<CB bs a 9 then 5 else if bs.length<a+85 then 2 else if ok=true then 0 else 13
noncomputable def CS (bs:List Bool) (a:Nat) (ok:Bool):List Nat×Nat×Nat:=if Fh bs a ok≠0 then ([],0,Fh bs a ok)else F1 (EH bs (a+9) 19) bs (CB bs a 9) 321 (a+85) []
theorem OC {ls:List Nat} (hok:Bi ls) {bs:List Bool} (h:(BJ ls bs).2.2=0):∃hs:(BJ ls bs).1<ls.length,ls[(BJ ls bs).1]≠0∧(BJ ls bs).2.1=ls[(BJ ls bs).1]:=by
 rw [Wf hok]at h ⊢
 unfold Ix at h ⊢
 cases hf:(GY ls).find? (Hj bs)with
 | none=>
  exfalso
  simp only [hf]at h
  split at h <;> simp at h
 | some c=>
  obtain ⟨s,hs,h0,rfl⟩:=Gr.1 (List.mem_of_find?_eq_some hf)
  exact ⟨hs,h0,rfl⟩
theorem fc {ls:List Nat} (hok:Bi ls) {bs:List Bool} (h:(BJ ls bs).2.2=0):1≤(BJ ls bs).2.1:=by
 obtain ⟨hs,h0,e⟩:=OC hok h
 omega
def HF (x:Nat):List Nat→Nat
  | []=>0
  | y::r=>if y=x then HF x r+1 else 0
theorem Se (x:Nat):∀l:List Nat,HF x l≤l.length
 | []=>Nat.le_refl _
 | y::r=>by
  have:=Se x r
  unfold HF;split <;> simp <;> omega
theorem Sf {x:Nat}:∀ {l:List Nat} {m:Nat},m≤HF x l→l.take m=List.replicate m x
 | [],m,h=>by
  obtain rfl:m=0:=by simpa [HF]using h
  rfl
 | y::r,0,h=>rfl
 | y::r,m+1,h=>by
  unfold HF at h
  split at h
  ·rename_i he
   rw [List.take_succ_cons,List.replicate_succ,he,Sf (x:=x) (l:=r) (m:=m) (by omega)]
  ·omega
def Ef (l:List Nat) (at_:Nat):Nat:=HF (l.getD at_ 0) (l.drop at_)
theorem eE {l:List Nat} {at_:Nat} (h:at_<l.length):1≤Ef l at_:=by
 unfold Ef
 rw [List.drop_eq_getElem_cons h,E9 h]
 unfold HF
 rw [if_pos rfl];omega
theorem QY (l:List Nat) (at_:Nat):Ef l at_≤l.length-at_:=by
 have:=Se (l.getD at_ 0) (l.drop at_)
 rwa [z7]at this
def DG (l:List Nat) (at_:Nat):Nat×Nat:=
  if l.getD at_ 0=0∧11≤Ef l at_ then (18,min (Ef l at_) 138)else if l.getD at_ 0=0∧3≤Ef l at_ then (17,Ef l at_)else
  if 0<at_∧l.getD at_ 0=l.getD (at_-1) 0∧3≤Ef l at_ then (16,min (Ef l at_) 6)else (l.getD at_ 0,1)
theorem MA {l:List Nat} {at_:Nat} (h:at_<l.length):1≤(DG l at_).2∧(DG l at_).2≤Ef l at_:=by
 have h1:=eE h
 unfold DG
 split
 ·simp only;omega
 ·split
  ·simp only;omega
  ·split <;> simp only <;> omega
theorem U3 {l:List Nat} {at_:Nat} (hb:∀x∈l,x≤15) (h:at_<l.length):(DG l at_).1<19∧rL (DG l at_).1≤(DG l at_).2∧(DG l at_).2≤rH (DG l at_).1∧((DG l at_).1=16→0<at_):=by
 have hx:=hb l[at_] (List.getElem_mem h)
 rw [←E9 h]at hx
 unfold DG
 split
 ·exact ⟨by show 18<19;omega,by show 11≤_;omega,by show _≤138;omega,fun k=>by cases k⟩
 ·split
  ·exact ⟨by show 17<19;omega,by show 3≤_;omega,by show _≤10;omega,fun k=>by cases k⟩
  ·split
   ·exact ⟨by show 16<19;omega,by show 3≤_;omega,by show _≤6;omega,fun _=>by omega⟩
   ·refine ⟨by simp only;omega,?_,?_,fun k=>by simp only at k;omega⟩
    ·simp only;unfold rL;rw [if_neg (by omega),if_neg (by omega),if_neg (by omega)];exact Nat.le_refl _
    ·simp only;unfold rH;rw [if_neg (by omega),if_neg (by omega),if_neg (by omega)];exact Nat.le_refl _
theorem cv {l:List Nat} {at_:Nat} (hb:∀x∈l,x≤15) (h:at_<l.length):IN (l.take at_) (DG l at_).1 (DG l at_).2=l.take (at_+(DG l at_).2):=by
 have hm:=MA h
 have hv:rV (l.take at_) (DG l at_).1=l.getD at_ 0:=by
  have hx:=hb l[at_] (List.getElem_mem h)
  rw [←E9 h]at hx
  unfold DG
  split
  ·rename_i hh;rw [hh.1];rfl
  ·split
   ·rename_i hh;rw [hh.1];rfl
   ·split
    ·rename_i hh
     unfold rV
     rw [if_pos rfl,z6,Nat.min_eq_left (by omega),hh.2.1,List.getD,List.getElem?_take,if_pos (by omega)];rfl
    ·unfold rV
     rw [if_neg (by simp only;omega),if_neg (by simp only;omega)]
 unfold IN
 rw [hv,List.take_add]
 congr 1
 exact (Sf hm.2).symm
def FR (l:List Nat):Nat→Nat→List (Nat×Nat)
  | 0,_=>[]
  | f+1,at_=>if at_<l.length then DG l at_::FR l f (at_+(DG l at_).2)else []
theorem VA (l:List Nat):∀ (f g at_:Nat),l.length≤at_+f→l.length≤at_+g→FR l f at_=FR l g at_
 | 0,0,_,_,_=>rfl
 | 0,g+1,at_,h,_=>by rw [FR,FR,if_neg (by omega)]
 | f+1,0,at_,_,h=>by rw [FR,FR,if_neg (by omega)]
 | f+1,g+1,at_,h1,h2=>by
  rw [FR,FR]
  by_cases h:at_<l.length
  ·have:=MA h
   rw [if_pos h,if_pos h,VA l f g _ (by omega) (by omega)]
  ·rw [if_neg h,if_neg h]
def Cg (l:List Nat) (at_:Nat):List (Nat×Nat):=FR l (l.length-at_) at_
theorem VD {l:List Nat} {at_:Nat} (h:l.length≤at_):Cg l at_=[]:=by
 unfold Cg
 rw [show l.length-at_=0 by omega];rfl
theorem QD {l:List Nat} {at_:Nat} (h:at_<l.length):Cg l at_=DG l at_::Cg l (at_+(DG l at_).2):=by
 unfold Cg
 have:=MA h
 rw [show l.length-at_=(l.length-at_-1)+1 by omega,FR,if_pos h,VA l (l.length-at_-1) (l.length - (at_+(DG l at_).2)) _ (by omega) (by omega)]
end Go.Bn
end

section
namespace Go.Bn
open Go
section
variable {P:Program} {E:Au} {hp:AA} {cl:Ca} {d:Option Tmp} {ty:TypeId} {pos:String} {af:Array Edge} {g:Option (Nat×Bool)}
variable {x y z:Operand} {t t':TypeId}
theorem Uk {B:Nat} {h0:AA} {rs:List AE} (st:St B h0 hp rs) (j:Nat) {gb o e sz n c:Nat} {vs us:List Value} {ua:Array Value} (hj:rs[j]? =some (row e sz (.slice (some ⟨gb,0,none⟩) n c) vs)) (hx:ev E x=some (.pointer (some ⟨gb,o,none⟩))) (hy:ev E y=some (.agg ua))
  (hu:ua.toList=us) (ht:Dx P t=some us.length) (h1:∀u∈us,Value.one u=true) (hle:o+us.length≤vs.length):
  Bd P ⟨d,.store t x y,ty,pos,af,g⟩ E hp (fun _ hp'=>St B h0 hp' (rs.set j (row e sz (.slice (some ⟨gb,0,none⟩) n c) (vs.take o++us++vs.drop (o+us.length))))):=by
 obtain rfl:ua=us.toArray:=by rw [←hu]
 obtain ⟨S,hr,_⟩:=st.at_ hj
 intro m a w ho hw K hK
 subst hw
 rcases hr with ⟨hh,_⟩ | ⟨g',n',cap,cur,fr,hh,h2,h3,h4,h5,h6,h7,h8,hS⟩
 ·cases hh
 ·cases hh
  have hvl:vs.length≤cur.size:=by rw [h7,h5];exact Nat.mul_le_mul_right _ h3
  obtain ⟨w',hr,hi,hs,hother,hthere⟩:=IQ (P:=P) (p:=gb) (o:=o) us 0 cur w h1 h2 (by omega) h8
  have hrun:(execOp a.eval ⟨d,.store t x y,ty,pos,af,g⟩).run P w= .ok .skip w':=by
   simp [execOp,ho.eval hx,ho.eval hy,Instr.storeAt,Instr.sureAddr,storeVar,Value.cells,N3 ht,hr]
  simp only [Oper.wp,hrun,Oper.upon]
  refine hK _ _ hi (st.upd hj ⟨by rw [hs];exact Nat.le_refl _,fun S' hS'=> ?_⟩)
  rcases hS' with ⟨hh,_⟩ | ⟨g',n',cap',cur',fr',hh,k2,k3,k4,k5,k6,k7,k8,kS⟩
  ·cases hh
  ·cases hh
   rw [h2]at k2
   cases k2
   refine ⟨S',.inr ⟨gb,n,c,_,fr,rfl,by rw [hthere],h3,h4,?_,?_,?_,?_,kS⟩,fun k hk=> .inl hk,fun k _ hk=>hother k (fun e=>hk ((kS k).2 e))⟩
   ·simp only [List.size_toArray,z2,z6,z7,Array.length_toList,Nat.add_zero];omega
   ·rw [z8,z8,←h6]
    simp only [Nat.add_zero]
    rw [List.take_append,List.take_take,z6,Array.length_toList,Nat.min_eq_right (by omega),Nat.min_eq_left (by omega:o≤cur.size),List.take_append,za (by omega:us.length≤n*sz-o)]
    rw [List.take_take,Nat.min_eq_left (by omega:o≤n*sz),List.drop_take,Nat.sub_sub]
   ·simp only [z2,z6,z7];omega
   ·have:(List.take (o+0) cur.toList++us++List.drop (o+0+us.length) cur.toList).toArray.size=cur.size:=by
     simp only [List.size_toArray,z2,z6,z7,Array.length_toList,Nat.add_zero];omega
    rw [this];exact h8
theorem TB:∀ (n:Nat) (zs:List Value) (i:Nat),i<n*zs.length→((List.replicate n zs).flatten)[i]? =zs[i%zs.length]?
 | 0,zs,i,h=>by simp at h
 | n+1,zs,i,h=>by
  rw [List.replicate_succ,List.flatten_cons]
  rcases Nat.lt_or_ge i zs.length with h1 | h1
  ·rw [zi h1,Nat.mod_eq_of_lt h1]
  ·rw [zh h1,TB n zs (i-zs.length) (by rw [Nat.add_mul]at h;omega)]
   rw [Nat.mod_eq_sub_mod h1]
theorem Pb (n:Nat) (zs:List Value) (hz:0<zs.length):((Array.range (n*zs.length)).map (zs.toArray[· % zs.toArray.size]!))=((List.replicate n zs).flatten).toArray:=by
 apply Array.ext
 ·simp
 ·intro i h1 h2
  have h1:i<n*zs.length:=by simpa using h1
  have hm:i%zs.length<zs.length:=Nat.mod_lt _ hz
  have:=TB n zs i h1
  rw [z9 (by simpa using h1),z9 hm]at this
  simp only [Array.getElem_map,Array.getElem_range,List.size_toArray,List.getElem_toArray]
  rw [Option.some.inj this]
  simp [hm]
theorem D4 {e sz b:Nat} {zs us:List Value} {ua:Array Value} (hx:ev E x=some (.agg ua)) (ht:DA P t=some (e,sz,b,zs)) (hn:Nat.ble (1*sz) 16777216=true) (hs:Nat.blt 0 (1*sz)=true) (hc:Jv 1 sz zs [(0,.agg ua)]=some us.toArray):
  Bd P ⟨d,.buildSlice t 1 #[(0,x)],ty,pos,af,g⟩ E hp (fun u hp'=>∃A,u= .slice A 1 1∧AV hp hp'∧Rd hp' A us):=by
 intro n a w ho hw K hK
 have hps:GQ E (#[(0,x)]:Array (Nat×Operand)).toList=some [(0,.agg ua)]:=by simp [GQ,hx]
 exact Ly hps ht hn hs hc n a w ho hw K fun v' w' hi ⟨h1,h2⟩=>hK v' w' hi ⟨_,h1,by rw [h2];exact Fg _ _,by rw [h2];exact VY _ _ _⟩
theorem UY {m n:Nat} (hx:ev E x=some (.int .i64 (m:Int))) (hy:ev E y=some (.int .i64 (n:Int))) (hm:m<2^63) (hn:n<2^63):BB cl P ⟨d,.binOp .or t x y t',ty,pos,af,g⟩ E hp (.int .i64 ((m||| n:Nat):Int)):=by
 have:=Nb (cl:=cl) (P:=P) (hp:=hp) (d:=d) (ty:=ty) (pos:=pos) (af:=af) (g:=g) (t:=t) (t':=t') hx hy
 rw [K7 .or m n (by simp only [IntKind.bits];omega) (by simp only [IntKind.bits];omega)]at this
 simp only at this
 have h3:=Nat.or_lt_two_pow hm hn
 rwa [G4 (by simp only [AI];omega)]at this
end
end Go.Bn
end

section
namespace Go.Bn
open Go
def JK:Sh→Value→Bool
  | .i k,.int k' _=>decide (k=k')
  | .b,.bool _=>true
  | .str,.string _=>true
  | _,_=>false
def DN:List Sh→List Value→Bool
  | [],[]=>true
  | k::ks,v::vs=>JK k v&&DN ks vs
  | _,_=>false
def My:Value→Value→Bool
  | .int _ a,.int _ b=>a==b
  | .bool a,.bool b=>a==b
  | .string a,.string b=>a.toList==b.toList
  | _,_=>false
def En:List Value→List Value→Bool
  | [],[]=>true
  | a::l,b::m=>My a b&&En l m
  | _,_=>false
def PO {α:Type}:Option α→Bool
  | some _=>true
  | none=>false
def LE (P : Program) (rec : TypeId → Option (List Sh)) : Nat → List Field → Option (List Sh)
  | _, [] => some []
  | o, f :: r => match Nat.beq f.offset o && (f.name != "_"), rec f.type with
    | true, some ks => match (match D6 P f.type with | true => Nat.beq ks.length 1 | false => (match Dx P f.type with | some n => Nat.beq n ks.length | none => false)), LE P rec (o + ks.length) r with
      | true, some rest => some (ks ++ rest)
      | _, _ => none
    | _, _ => none
def JI (P : Program) : Nat → TypeId → Option (List Sh)
  | 0, _ => none
  | d + 1, t => match P.underlying t with
    | some (.int k) => some [.i k]
    | some .bool => some [.b]
    | some .string => some [.str]
    | some (.struct fs) => match P.stoodInHeld t with
      | true => none
      | false => LE P (JI P d) 0 fs.toList
    | _ => none
theorem O4:∀ {ks ks':List Sh} {l:List Value},DN (ks++ks') l=true→DN ks (l.take ks.length)=true∧DN ks' (l.drop ks.length)=true
 | [],ks',l,h=>⟨by simp [DN],by simpa using h⟩
 | k::ks,ks',[],h=>by simp [DN]at h
 | k::ks,ks',v::l,h=>by
  simp only [z5,DN,Bool.and_eq_true]at h
  obtain ⟨h1,h2⟩:=O4 h.2
  simp [DN,h.1,h1,h2]
theorem JJ:∀ {ks:List Sh} {l:List Value},DN ks l=true→l.length=ks.length
 | [],[],_=>rfl
 | [],_::_,h=>by simp [DN]at h
 | _::_,[],h=>by simp [DN]at h
 | _::ks,_::l,h=>by
  simp only [DN,Bool.and_eq_true]at h
  simp [JJ h.2]
theorem Sc:∀ (n:Nat) {l m:List Value},l.length=m.length→En l m=(En (l.take n) (m.take n)&&En (l.drop n) (m.drop n))
 | 0,l,m,_=>by simp [En]
 | n+1,[],[],_=>by simp [En]
 | n+1,[],_::_,h=>by simp at h
 | n+1,_::_,[],h=>by simp at h
 | n+1,a::l,b::m,h=>by
  simp only [List.take_succ_cons,List.drop_succ_cons,En]
  rw [Sc n (by simpa using h),Bool.and_assoc]
theorem U9 {P:Program} {t:TypeId} {xs:List Value} {o:Nat} {v:Value} {r:List Value} (h:D6 P t=true) (hx:xs.drop o=v::r) (w:World):(part t xs.toArray o).run P w= .ok v w:=by
 have e:xs[o]? =some v:=by
  have:=congrArg (·[0]?) hx
  simpa using this
 simp [part,N2 h,e]
theorem U4 {P:Program} {t:TypeId} {xs:List Value} {o n:Nat} (h:Dx P t=some n) (w:World):(part t xs.toArray o).run P w= .ok (.agg ((xs.drop o).take n).toArray) w:=by
 have e:xs.toArray.extract o (o+n)=((xs.drop o).take n).toArray:=by
  apply Array.ext'
  simp [List.take_drop]
 simp [part,Vn h,N3 h,e]
theorem Vl {P:Program}:∀ (dd d:Nat) {t:TypeId} {ks:List Sh},JI P dd t=some ks→dd≤d→
  (∀ (x y:Value) (w:World),D6 P t=true→DN ks [x]=true→DN ks [y]=true→(Op.equalIn d t x y).run P w= .ok (My x y) w)∧
  (∀ (xs ys:List Value) (w:World),PO (Dx P t)=true→DN ks xs=true→DN ks ys=true→(Op.equalIn d t (.agg xs.toArray) (.agg ys.toArray)).run P w= .ok (En xs ys) w)
 | 0,_,_,_,h,_=>by simp [JI]at h
 | dd+1,0,_,_,_,h=>by omega
 | dd+1,d+1,t,ks,h,hd=>by
  unfold JI at h
  split at h
  ·rename_i k hu
   cases h
   refine ⟨fun x y w _ hx hy=> ?_,fun xs ys w ha=> ?_⟩
   ·cases x <;> simp [DN,JK]at hx
    cases y <;> simp [DN,JK]at hy
    subst hx hy
    rw [run_equalIn_int w d t _ _ _ _ hu];rfl
   ·rw [Dx,hu]at ha;cases ha
  ·rename_i hu
   cases h
   refine ⟨fun x y w _ hx hy=> ?_,fun xs ys w ha=> ?_⟩
   ·cases x <;> simp [DN,JK]at hx
    cases y <;> simp [DN,JK]at hy
    rw [run_equalIn_bool' w d t _ _ hu];rfl
   ·rw [Dx,hu]at ha;cases ha
  ·rename_i hu
   cases h
   refine ⟨fun x y w _ hx hy=> ?_,fun xs ys w ha=> ?_⟩
   ·cases x <;> simp [DN,JK]at hx
    cases y <;> simp [DN,JK]at hy
    rw [run_equalIn_string w d t _ _ hu];rfl
   ·rw [Dx,hu]at ha;cases ha
  ·rename_i fs hu
   split at h
   ·cases h
   ·rename_i hst
    have hfo:P.fieldsOf t=fs:=by simp [Program.fieldsOf,hu]
    have hu':P.underlying t=some (.struct (P.fieldsOf t)):=by rw [hfo];exact hu
    refine ⟨fun x y w hs=> ?_,fun xs ys w _ hx hy=> ?_⟩
    ·rw [D6,hu]at hs;cases hs
    ·rw [run_equalIn_agg w d t _ _ hu' hst,hfo]
     have hlen:xs.length=ys.length:=by rw [JJ hx,JJ hy]
     suffices key:∀ (l:List Field) (o:Nat) (ks:List Sh),LE P (JI P dd) o l=some ks→DN ks (xs.drop o)=true→DN ks (ys.drop o)=true→(Op.eqFields d xs.toArray ys.toArray l).run P w= .ok (En (xs.drop o) (ys.drop o)) w by
      have:=key fs.toList 0 ks h (by simpa using hx) (by simpa using hy)
      simpa using this
     intro l
     induction l with
     | nil=>
      intro o ks h hx hy
      simp only [LE,Option.some.injEq]at h
      subst h
      have e1:=List.eq_nil_of_length_eq_zero (JJ hx)
      have e2:=List.eq_nil_of_length_eq_zero (JJ hy)
      rw [e1,e2];simp [Op.eqFields,En]
     | cons f r ih=>
      intro o ks h hx hy
      simp only [LE]at h
      split at h
      ·rename_i k1 hon hk
       simp only [Bool.and_eq_true,bne_iff_ne]at hon
       have ho:=Nat.eq_of_beq_eq_true hon.1
       split at h
       ·rename_i rest hc hr
        cases h
        obtain ⟨x1,x2⟩:=O4 hx
        obtain ⟨y1,y2⟩:=O4 hy
        rw [List.drop_drop]at x2 y2
        have ihh:=ih (o+k1.length) rest hr x2 y2
        obtain ⟨g1,g2⟩:=Vl dd d hk (by omega)
        simp only [Op.eqFields,hon.2,ne_eq,not_false_eq_true,if_true,Sem.run_bind,ho]
        have hrec:∃a b,(part f.type xs.toArray o).run P w= .ok a w∧(part f.type ys.toArray o).run P w= .ok b w∧(Op.equalIn d f.type a b).run P w= .ok (En ((xs.drop o).take k1.length) ((ys.drop o).take k1.length)) w:=by
         cases hsg:D6 P f.type with
         | true=>
          rw [hsg]at hc
          have h1:k1.length=1:=Nat.eq_of_beq_eq_true hc
          obtain ⟨x,rx,ex⟩:∃x rx,xs.drop o=x::rx:=by
           cases he:xs.drop o with
           | nil=>rw [he]at x1;have:=JJ x1;simp at this;omega
           | cons x rx=>exact ⟨x,rx,rfl⟩
          obtain ⟨y,ry,ey⟩:∃y ry,ys.drop o=y::ry:=by
           cases he:ys.drop o with
           | nil=>rw [he]at y1;have:=JJ y1;simp at this;omega
           | cons y ry=>exact ⟨y,ry,rfl⟩
          rw [ex,h1]at x1
          rw [ey,h1]at y1
          refine ⟨x,y,U9 hsg ex w,U9 hsg ey w,?_⟩
          rw [ex,ey,h1,g1 x y w hsg (by simpa using x1) (by simpa using y1)]
          simp [En]
         | false=>
          rw [hsg]at hc
          cases hag:Dx P f.type with
          | none=>rw [hag]at hc;simp at hc
          | some n=>
           rw [hag]at hc
           have hn:n=k1.length:=Nat.eq_of_beq_eq_true hc
           subst hn
           exact ⟨_,_,U4 hag w,U4 hag w,g2 _ _ w (by rw [hag];rfl) x1 y1⟩
        obtain ⟨a,b,ha,hb,hab⟩:=hrec
        rw [ha]
        simp only [Result.andThen_ok,hb,hab]
        rw [Sc k1.length (l:=xs.drop o) (m:=ys.drop o) (by rw [z7,z7,hlen]),List.drop_drop,List.drop_drop]
        cases En ((xs.drop o).take k1.length) ((ys.drop o).take k1.length)with
        | true=>simpa using ihh
        | false=>simp
       ·cases h
      ·cases h
  ·cases h
theorem Sg {P:Program} {t:TypeId} {ks:List Sh} {xs ys:List Value} (hk:JI P 9 t=some ks) (ha:PO (Dx P t)=true) (hx:DN ks xs=true) (hy:DN ks ys=true) (w:World):
  (binOp .eql t (.agg xs.toArray) (.agg ys.toArray)).run P w= .ok (.bool (En xs ys)) w:=by
 rw [run_eql_struct,(Vl 9 10000 hk (by omega)).2 xs ys w ha hx hy];rfl
theorem UJ {P:Program} {t:TypeId} {ks:List Sh} {xs ys:List Value} (hk:JI P 9 t=some ks) (ha:PO (Dx P t)=true) (hx:DN ks xs=true) (hy:DN ks ys=true) (w:World):
  (binOp .neq t (.agg xs.toArray) (.agg ys.toArray)).run P w= .ok (.bool (!En xs ys)) w:=eK (Sg hk ha hx hy w)
end Go.Bn
end

section
namespace Go.Bn
open Go Proofs
theorem Oh (s:Nat) (h0:AA):AG Tryz.prog 271 [nV s] h0 fun v h'=>v=Al [nV (rL s),nV (rH s),nV (rW s)]∧h0=h':=by
 refine BE Tryz.func271 rfl fun _=>EY ?_
 refine AK rfl (fun h=> ?_) (fun h=> ?_)
 ·refine AO ?_
  obtain rfl:s=16:=by omega
  exact ⟨rfl,rfl⟩
 ·refine AH ?_
  refine AK rfl (fun h=> ?_) (fun h=> ?_)
  ·refine AO ?_
   obtain rfl:s=17:=by omega
   exact ⟨rfl,rfl⟩
  ·refine AH ?_
   refine AK rfl (fun h=> ?_) (fun h=> ?_)
   ·refine AO ?_
    obtain rfl:s=18:=by omega
    exact ⟨rfl,rfl⟩
   ·refine Aj ?_
    unfold rL rH rW
    simp only [if_neg (show ¬s=16 by omega),if_neg (show ¬s=17 by omega),if_neg (show ¬s=18 by omega)]
    exact ⟨rfl,trivial⟩
@[reducible] def uV (x:Nat):Value:= .int .u64 (x:Int)
theorem Kk {x y:Nat} (h:x=y):uV x=uV y:=by rw [h]
theorem bW (m:Nat) (h0:AA) (hm:m<4294967296):AG Tryz.prog 328 [uV 1,uV m] h0 fun v h'=>v=Al [uV 0,uV m]∧h0=h':=by
 refine Ac Tryz.func328 rfl fun _=>AP ?_
 first | refine AD (Je (n:=4294967295) rfl rfl rfl (by simp only [IntKind.bits];omega) (by simp only [IntKind.bits];omega)) rfl rfl ?_ | refine AD (IG rfl rfl) rfl rfl ?_
 refine AT (uV 1) rfl (AH ?_)
 first | refine AD (EK 32 rfl rfl (by decide)) rfl rfl ?_ | refine AD (Ez 32 rfl rfl (by decide)) rfl rfl ?_
 refine AT (uV 0) rfl (AH ?_)
 refine xa (Je (m:=m) (n:=4294967295) rfl rfl rfl (by simp only [IntKind.bits];omega) (by simp only [IntKind.bits];omega)) ?_
 refine AT (uV m) (Kk (by rw [show 4294967295=2^32-1 from rfl,Nat.and_two_pow_sub_one_eq_mod];omega)) (AH ?_)
 first | refine AD (EK 32 rfl rfl (by decide)) rfl rfl ?_ | refine AD (Ez 32 rfl rfl (by decide)) rfl rfl ?_
 refine AT (uV 0) (Kk (Nat.div_eq_of_lt (by omega))) (AO ?_)
 refine AT (uV m) (Kk (by omega)) (AO ?_)
 refine AT (uV 0) (Kk (by omega)) (AC ?_)
 first | refine AD (EK 32 rfl rfl (by decide)) rfl rfl ?_ | refine AD (Ez 32 rfl rfl (by decide)) rfl rfl ?_
 refine AT (uV 0) (Kk (Nat.div_eq_of_lt (by omega))) (AC ?_)
 refine AT (uV 0) rfl (AH ?_)
 first | refine AD (Je (n:=4294967295) rfl rfl rfl (by simp only [IntKind.bits];omega) (by simp only [IntKind.bits];omega)) rfl rfl ?_ | refine AD (IG rfl rfl) rfl rfl ?_
 refine AT (uV 0) rfl (AH ?_)
 first | refine AD (EK 32 rfl rfl (by decide)) rfl rfl ?_ | refine AD (Ez 32 rfl rfl (by decide)) rfl rfl ?_
 refine AT (uV 0) rfl (AP ?_)
 refine AT (uV 0) rfl (AC ?_)
 refine AT (uV 0) rfl (AO ?_)
 refine AT (uV 0) rfl (AB ?_)
 refine AT (uV 0) rfl (AC ?_)
 first | refine AD (EK 32 rfl rfl (by decide)) rfl rfl ?_ | refine AD (Ez 32 rfl rfl (by decide)) rfl rfl ?_
 refine AT (uV 0) rfl (AC ?_)
 refine AT (uV 0) rfl (AO ?_)
 refine AT (uV m) (Kk (by omega)) (AF ?_)
 exact ⟨rfl,rfl⟩
theorem bX (m:Nat) (h0:AA) (hm:m<4294967296):AG Tryz.prog 323 [uV 1,uV m] h0 fun v h'=>v=Al [uV 0,uV m]∧h0=h':=by
 refine Ac Tryz.func323 rfl fun _=>By ?_
 refine xk (bW m _ hm) rfl ?_
 rintro _ _ ⟨rfl,rfl⟩
 refine Bq ?_
 exact ⟨rfl,rfl⟩
theorem dl {x k m:Nat} (h1:k≤m):(((List.replicate k x++List.replicate (m-k) 0).map nV).take k++((List.replicate k x).map nV).take (min k (m-k)*1)++((List.replicate k x++List.replicate (m-k) 0).map nV).drop (k+min k (m-k)*1))=(List.replicate (k+min k (m-k)) x++List.replicate (m - (k+min k (m-k))) 0).map nV:=by
 rw [zf,←List.map_take,←List.map_take,←List.map_drop,←List.map_append,←List.map_append]
 congr 1
 rw [List.take_append_of_le_length (by simp),za (by simp),List.take_replicate,List.drop_append,List.drop_of_length_le (by rw [zg];omega),z4,List.drop_replicate,zg]
 rw [Nat.min_eq_left (Nat.min_le_left _ _),←List.replicate_append_replicate]
 congr 2
 omega
theorem Kf {c x m:Nat} {A:Option Addr} {h0:AA} (hr:Rd h0 A [nV x]) (hm1:1≤m) (hm:m≤65536):
  AG Tryz.prog 310 [.slice A 1 c,nV m] h0 fun v h'=>St h0.size h0 h' [row 3 1 v ((List.replicate m x).map nV)]:=by
 refine Ac Tryz.func310 rfl fun _=> ?_
 have st:=St.start h0
 refine BP ?_
 refine AK rfl (fun h=> ?_) (fun h=> ?_)
 ·exact absurd h (by omega)
 ·refine AP ?_
  refine xk (bX m _ (by omega)) rfl ?_
  rintro _ _ ⟨rfl,rfl⟩
  refine Bb ?_
  refine AK rfl (fun h=> ?_) (fun h=> ?_)
  ·exact absurd h (by omega)
  ·refine AJ ?_
   refine xa (Bj (k':= .i64) rfl rfl (by simp only [AI];omega)) ?_
   refine xv (GA (by omega) rfl rfl rfl) ?_
   rintro v hp hnew
   have st:=st.new hnew
   obtain ⟨g,n9,c9,rfl,hl9,hnc9,_⟩:=st.row0 0 rfl (by rw [zg];omega)
   rw [zg,zf]at hl9
   obtain rfl:m=n9:=hl9
   refine AL ?_
   refine xv (Ka (n':=m) (c':=c9) (m:=1) st 0 rfl (hr.ext st.low) rfl (by intro u hu;rw [zo.1 hu];rfl) (by rw [zg];omega) rfl rfl rfl rfl) ?_
   rintro _ hp ⟨rfl,st⟩
   simp only [z0]at st
   have e0:(List.replicate m (Value.int .i64 0)).take 0++[nV x].take (min 1 m*1)++(List.replicate m (Value.int .i64 0)).drop (0+min 1 m*1)=(List.replicate 1 x++List.replicate (m-1) 0).map nV:=by
    rw [Nat.min_eq_left hm1]
    simp [List.drop_replicate]
   rw [e0]at st
   rw [Nat.min_eq_left hm1]
   refine AJ ?_
   refine BD (fun k=>m-k) (fun k=>[(7,.slice (some ⟨g,0,none⟩) m c9),(8,nV k)])
    (fun (k:Nat) hp=>1≤k∧k≤m∧St h0.size h0 hp [row 3 1 (.slice (some ⟨g,0,none⟩) m c9) ((List.replicate k x++List.replicate (m-k) 0).map nV)])
    1 (Cu rfl rfl) ⟨Nat.le_refl _,hm1,st⟩ ?_
   clear st
   rintro k hp ⟨hk1,hk,st⟩
   refine AP ?_
   refine AK rfl (fun h=> ?_) (fun h=> ?_)
   ·refine AL ?_
    refine xa (FD rfl rfl rfl (by omega) (by omega)) ?_
    rw [GN (by omega),zf]
    refine AF ?_
    rw [H1]
    refine xv (Ka (o:=k) (n':=m-k) (m:=k) (news:=(List.replicate k x).map nV) st 0 rfl (by have:=(st.rdS 0 rfl).2.take k;rwa [←List.map_take,List.take_append_of_le_length (by simp),za (by simp)]at this) (by simp) (Cz _) (by simp;omega) rfl rfl rfl rfl) ?_
    rintro _ hp ⟨rfl,st⟩
    simp only [z0]at st
    rw [dl hk]at st
    refine AJ ?_
    exact Ad (k+min k (m-k)) (Cu rfl rfl) ⟨by omega,by omega,st⟩ (by omega)
   ·refine AO ?_
    obtain rfl:k=m:=by omega
    rw [Nat.sub_self,List.replicate_zero,List.append_nil]at st
    exact st
theorem RW {B s m:Nat} {v:Value} {l:List Nat} {F:List AE} {h0:AA} (st:St B h0 h0 (Bn.row 3 1 v (l.map nV)::F)) (hs:s<19) (hm1:rL s≤m) (hm2:m≤rH s) (hl:l.length≤65536):
  AG Tryz.prog 284 [v,.agg #[nV s,nV m]] h0 fun u h'=>(s=16∧l.length=0∧u=Al [.slice none 0 0,nV 3]∧St B h0 h' F)∨(¬ (s=16∧l.length=0)∧∃w,u=Al [w,nV 0]∧St B h0 h' (Bn.row 3 1 w ((IN l s m).map nV)::F)):=by
 have hrh:=QO s
 have hrp:=QP s
 obtain ⟨A,n,c,rfl,hln,_,_,hrd⟩:=st.row 0 rfl
 rw [z3,zf]at hln
 refine Ac Tryz.func284 rfl fun _=>AB ?_
 refine xv (Bv (cs:=[nV s,nV m]) rfl rfl) ?_
 rintro _ hp ⟨p,rfl,hnew⟩
 replace st:=st.new hnew
 refine AL ?_
 refine xc st 0 0 ?_
 refine xk (Oh s _) rfl ?_
 rintro _ _ ⟨rfl,rfl⟩
 refine By ?_
 refine xc st 0 0 ?_
 refine AC ?_
 refine AT (.bool false) (congrArg Value.bool (zu (by omega))) (AB ?_)
 refine xc st 0 0 ?_
 refine AC ?_
 refine AT (.bool false) (congrArg Value.bool (zu (by omega))) (AF ?_)
 refine xc st 0 1 ?_
 refine AB ?_
 refine AT (.bool false) (congrArg Value.bool (zu (by omega))) (AF ?_)
 refine xc st 0 1 ?_
 refine AB ?_
 refine AT (.bool false) (congrArg Value.bool (zu (by omega))) (AF ?_)
 refine xc st 0 0 ?_
 refine AB ?_
 refine Am 41 rfl (fun h=> ?_) (fun h=> ?_)
 ·have h41:=h
  refine AL ?_
  refine AK rfl (fun h=> ?_) (fun h=> ?_)
  ·refine AL ?_
   exact .inl ⟨by omega,by omega,rfl,st.tail.tail⟩
  ·refine AJ ?_
   refine xc st 0 0 ?_
   refine BP ?_
   refine AK rfl (fun h=> ?_) (fun h=> ?_)
   ·have hv:rV l s=l.getD (n-1) 0:=by unfold rV;rw [if_pos (by omega),hln]
    have hn1:1≤n:=by omega
    obtain ⟨g,o,rfl,hc⟩:=(st.rdS 1 rfl).2.at_ (by rw [z3];omega)
    have hlast:=hc (n-1) (nV (rV l s)) (by rw [hv,zr,z9 (by omega),E9 (by omega)];rfl)
    refine AH ?_
    refine xa (C0 (i:=n-1) rfl rfl rfl (by omega)) ?_
    refine xl (hlast) rfl (AO ?_)
    refine xv (Jj rfl rfl rfl) ?_
    rintro v7 hp hnew
    replace st:=st.new hnew
    obtain ⟨A7,n7,c7,rfl,hl7,_,_,hrd7⟩:=st.row 0 rfl
    obtain rfl:n7=1:=by simpa using hl7.symm
    refine AC ?_
    refine xc st 1 1 ?_
    refine xk (Kf (x:=rV l s) hrd7 (by omega) (by omega)) rfl ?_
    rintro v8 hp8 st8
    obtain ⟨A8,n8,c8,rfl,hl8,_,_,hrd8⟩:=st8.row 0 rfl
    rw [z3,zg,zf]at hl8
    replace st:=st.join st8
    simp only [z5,z4]at st
    refine BN (BY st 3 rfl (hrd8) (by rw [z3,zg];omega) (Cz _) (by simp;omega) rfl rfl rfl rfl rfl rfl rfl) rfl rfl rfl fun v hp st=> ?_
    simp only [z0,z1]at st
    rw [←List.map_append]at st
    refine AJ ?_
    exact .inr ⟨by omega,_,rfl,st.tail.tail.tail⟩
   ·refine AL ?_
    refine AK rfl (fun h=> ?_) (fun h=> ?_)
    ·have hv:rV l s=0:=by unfold rV;rw [if_neg (by omega),if_pos (by omega)]
     refine AP ?_
     refine xv (Jj rfl rfl rfl) ?_
     rintro v7 hp hnew
     replace st:=st.new hnew
     obtain ⟨A7,n7,c7,rfl,hl7,_,_,hrd7⟩:=st.row 0 rfl
     obtain rfl:n7=1:=by simpa using hl7.symm
     refine AC ?_
     refine xc st 1 1 ?_
     refine xk (Kf (x:=0) hrd7 (by omega) (by omega)) rfl ?_
     rintro v8 hp8 st8
     rw [←hv]at st8
     obtain ⟨A8,n8,c8,rfl,hl8,_,_,hrd8⟩:=st8.row 0 rfl
     rw [z3,zg,zf]at hl8
     replace st:=st.join st8
     simp only [z5,z4]at st
     refine BN (BY st 3 rfl (hrd8) (by rw [z3,zg];omega) (Cz _) (by simp;omega) rfl rfl rfl rfl rfl rfl rfl) rfl rfl rfl fun v hp st=> ?_
     simp only [z0,z1]at st
     rw [←List.map_append]at st
     refine AJ ?_
     exact .inr ⟨by omega,_,rfl,st.tail.tail.tail⟩
    ·have hv:rV l s=s:=by unfold rV;rw [if_neg (by omega),if_neg (by omega)]
     refine AL ?_
     refine xv (Jj rfl rfl rfl) ?_
     rintro v7 hp hnew
     replace st:=st.new hnew
     obtain ⟨A7,n7,c7,rfl,hl7,_,_,hrd7⟩:=st.row 0 rfl
     obtain rfl:n7=1:=by simpa using hl7.symm
     refine AC ?_
     refine xc st 1 1 ?_
     refine xk (Kf (x:=s) hrd7 (by omega) (by omega)) rfl ?_
     rintro v8 hp8 st8
     have hv2:List.replicate m s=List.replicate m (rV l s):=by rw [hv]
     rw [hv2]at st8
     have st8':=st8
     obtain ⟨A8,n8,c8,rfl,hl8,_,_,hrd8⟩:=st8'.row 0 rfl
     rw [z3,zg,zf]at hl8
     replace st:=st.join st8'
     simp only [z5,z4]at st
     refine BN (BY st 3 rfl (hrd8) (by rw [z3,zg];omega) (Cz _) (by simp;omega) rfl rfl rfl rfl rfl rfl rfl) rfl rfl rfl fun v hp st=> ?_
     simp only [z0,z1]at st
     rw [←List.map_append]at st
     refine AJ ?_
     exact .inr ⟨by omega,_,rfl,st.tail.tail.tail⟩
 ·have h41:=h
  refine Bu ?_
  refine xc st 0 0 ?_
  refine BP ?_
  refine AK rfl (fun h=> ?_) (fun h=> ?_)
  ·have hv:rV l s=l.getD (n-1) 0:=by unfold rV;rw [if_pos (by omega),hln]
   have hn1:1≤n:=by omega
   obtain ⟨g,o,rfl,hc⟩:=(st.rdS 1 rfl).2.at_ (by rw [z3];omega)
   have hlast:=hc (n-1) (nV (rV l s)) (by rw [hv,zr,z9 (by omega),E9 (by omega)];rfl)
   refine AH ?_
   refine xa (C0 (i:=n-1) rfl rfl rfl (by omega)) ?_
   refine xl (hlast) rfl (AO ?_)
   refine xv (Jj rfl rfl rfl) ?_
   rintro v7 hp hnew
   replace st:=st.new hnew
   obtain ⟨A7,n7,c7,rfl,hl7,_,_,hrd7⟩:=st.row 0 rfl
   obtain rfl:n7=1:=by simpa using hl7.symm
   refine AC ?_
   refine xc st 1 1 ?_
   refine xk (Kf (x:=rV l s) hrd7 (by omega) (by omega)) rfl ?_
   rintro v8 hp8 st8
   obtain ⟨A8,n8,c8,rfl,hl8,_,_,hrd8⟩:=st8.row 0 rfl
   rw [z3,zg,zf]at hl8
   replace st:=st.join st8
   simp only [z5,z4]at st
   refine BN (BY st 3 rfl (hrd8) (by rw [z3,zg];omega) (Cz _) (by simp;omega) rfl rfl rfl rfl rfl rfl rfl) rfl rfl rfl fun v hp st=> ?_
   simp only [z0,z1]at st
   rw [←List.map_append]at st
   refine AJ ?_
   exact .inr ⟨by omega,_,rfl,st.tail.tail.tail⟩
  ·refine AL ?_
   refine AK rfl (fun h=> ?_) (fun h=> ?_)
   ·have hv:rV l s=0:=by unfold rV;rw [if_neg (by omega),if_pos (by omega)]
    refine AP ?_
    refine xv (Jj rfl rfl rfl) ?_
    rintro v7 hp hnew
    replace st:=st.new hnew
    obtain ⟨A7,n7,c7,rfl,hl7,_,_,hrd7⟩:=st.row 0 rfl
    obtain rfl:n7=1:=by simpa using hl7.symm
    refine AC ?_
    refine xc st 1 1 ?_
    refine xk (Kf (x:=0) hrd7 (by omega) (by omega)) rfl ?_
    rintro v8 hp8 st8
    rw [←hv]at st8
    obtain ⟨A8,n8,c8,rfl,hl8,_,_,hrd8⟩:=st8.row 0 rfl
    rw [z3,zg,zf]at hl8
    replace st:=st.join st8
    simp only [z5,z4]at st
    refine BN (BY st 3 rfl (hrd8) (by rw [z3,zg];omega) (Cz _) (by simp;omega) rfl rfl rfl rfl rfl rfl rfl) rfl rfl rfl fun v hp st=> ?_
    simp only [z0,z1]at st
    rw [←List.map_append]at st
    refine AJ ?_
    exact .inr ⟨by omega,_,rfl,st.tail.tail.tail⟩
   ·have hv:rV l s=s:=by unfold rV;rw [if_neg (by omega),if_neg (by omega)]
    refine AL ?_
    refine xv (Jj rfl rfl rfl) ?_
    rintro v7 hp hnew
    replace st:=st.new hnew
    obtain ⟨A7,n7,c7,rfl,hl7,_,_,hrd7⟩:=st.row 0 rfl
    obtain rfl:n7=1:=by simpa using hl7.symm
    refine AC ?_
    refine xc st 1 1 ?_
    refine xk (Kf (x:=s) hrd7 (by omega) (by omega)) rfl ?_
    rintro v8 hp8 st8
    have hv2:List.replicate m s=List.replicate m (rV l s):=by rw [hv]
    rw [hv2]at st8
    have st8':=st8
    obtain ⟨A8,n8,c8,rfl,hl8,_,_,hrd8⟩:=st8'.row 0 rfl
    rw [z3,zg,zf]at hl8
    replace st:=st.join st8'
    simp only [z5,z4]at st
    refine BN (BY st 3 rfl (hrd8) (by rw [z3,zg];omega) (Cz _) (by simp;omega) rfl rfl rfl rfl rfl rfl rfl) rfl rfl rfl fun v hp st=> ?_
    simp only [z0,z1]at st
    rw [←List.map_append]at st
    refine AJ ?_
    exact .inr ⟨by omega,_,rfl,st.tail.tail.tail⟩
end Go.Bn
end

section
namespace Go.Bn
open Go Proofs
theorem Kn {n:Nat} (h:n≤32):wd 32 ((n:Nat):Int)=n:=by unfold wd;omega
theorem St.re3 {B:Nat} {h0 hp:AA} {a b c:AE} {F:List AE} (s:St B h0 hp (a::b::c::F)):St B h0 hp (b::c::a::F):=s.perm ((List.Perm.swap _ _ _).trans ((List.Perm.swap _ _ _).cons _))
theorem St.re3' {B:Nat} {h0 hp:AA} {a b c:AE} {F:List AE} (s:St B h0 hp (b::c::a::F)):St B h0 hp (b::c::F):=(s.perm (((List.Perm.swap _ _ _).cons _).trans (List.Perm.swap _ _ _))).tail
def B0 (bs:List Bool) (a:Nat):Bool:=decide (D5 ((EH bs (a+9) 19).map fun n:Nat=>(n:Int)))
theorem JE (ls:List Nat):(ls.map fun n:Nat=>(n:Int)).map Int.toNat=ls:=by
 rw [List.map_map]
 conv=>rhs;rw [←List.map_id ls]
 exact List.map_congr_left fun x _=>by simp
theorem TJ {B q m c a:Nat} {A:Option Addr} {l:List UInt8} {F:List AE} {h0:AA} (st:St B h0 h0 (Cn q A m c a::F)) (hrB:∀h',BC B h0 h'→Rd h' A (l.map AN)) (hl:l.length=m) (hm:m≤1073741824) (ha:a≤8*m):
  AG Tryz.prog 282 [.pointer (some ⟨q,0,none⟩)] h0 fun v h'=>∃n' w a',v=Al [n',w,nV (Fh (AR l) a (B0 (AR l) a))]∧a'≤8*m∧
   (Fh (AR l) a (B0 (AR l) a)=0→n'=nV (CB (AR l) a 9)∧a+85≤8*m∧Bi (EH (AR l) (a+9) 19)∧∃p,w= .pointer (some ⟨p,0,none⟩)∧St B h0 h' (CO p (EH (AR l) (a+9) 19)::Cn q A m c (a+85)::F))∧
   (Fh (AR l) a (B0 (AR l) a)≠0→St B h0 h' (Cn q A m c a'::F)):=by
 have hbl:(AR l).length=8*m:=by rw [Gk,hl]
 have hH:Fh (AR l) a (B0 (AR l) a)=if (AR l).length<a+9 then 2 else if CB (AR l) a 9<1∨320<CB (AR l) a 9 then 5 else if (AR l).length<a+85 then 2 else if B0 (AR l) a=true then 0 else 13:=rfl
 have hn9:=Il (AR l) a 9
 have hn4:=fun i=>Il (AR l) (a+9+4*i) 4
 have hok:B0 (AR l) a=decide (D5 ((EH (AR l) (a+9) 19).map fun n:Nat=>(n:Int))):=rfl
 obtain ⟨bs,hbs⟩:∃bs,AR l=bs:=⟨_,rfl⟩
 simp only [hbs]at hbl hH hn9 hn4 hok ⊢
 obtain ⟨e,he⟩:∃e,Fh bs a (B0 bs a)=e:=⟨_,rfl⟩
 rw [he]at hH ⊢
 refine BE Tryz.func282 rfl fun _=>AF ?_
 by_cases h9:9≤8*m-a
 ·refine AL ?_
  refine xk (Jr (k:=9) st (hrB _ st.low) hl (by omega) ha) rfl ?_
  rintro _ hp ⟨rfl,st1⟩
  rw [show wd 32 9=9 from rfl,if_pos h9]at st1
  rw [show wd 32 9=9 from rfl,hbs,if_pos h9,decide_eq_true h9]
  refine BP ?_
  refine xa (Bm rfl) (Aj ?_)
  refine Am 22 rfl (fun h=> ?_) (fun h=> ?_)
  ·have h22:=h
   refine By ?_
   have he5:e=5:=by rw [hH,if_neg (by omega),if_pos (by omega)]
   rw [he5]
   exact ⟨_,_,a+9,rfl,by omega,fun hh=>absurd hh (by omega),fun _=>st1⟩
  ·have h22:=h
   refine AJ ?_
   refine AK rfl (fun h=> ?_) (fun h=> ?_)
   ·have hbad:CB bs a 9<1∨320<CB bs a 9:=by omega
    refine AO ?_
    have he5:e=5:=by rw [hH,if_neg (by omega),if_pos hbad]
    rw [he5]
    exact ⟨_,_,a+9,rfl,by omega,fun hh=>absurd hh (by omega),fun _=>st1⟩
   ·refine AF ?_
    refine xv (GA (n:=19) (by omega) rfl rfl rfl) ?_
    rintro v hp hnew
    have st:=st1.new hnew
    obtain ⟨go,no,co,rfl,hno,_⟩:=st.row0 0 rfl (by rw [zg];omega)
    obtain rfl:no=19:=by simpa using hno.symm
    refine BP ?_
    have hz:List.replicate 19 (Value.int .i64 0)=(EH bs (a+9) 0).map nV:=by rw [ah,List.map_replicate];rfl
    rw [hz]at st
    refine BD (fun i=>19-i) (fun i=>[(0,.pointer (some ⟨q,0,none⟩)),(5,.int .u32 (CB bs a 9:Nat)),(7,.slice (some ⟨go,0,none⟩) 19 co),(28,nV 19),(29,nV i)])
     (fun (i:Nat) hp=>i≤19∧a+9+4*i≤8*m∧St B h0 hp (Bn.row 3 1 (.slice (some ⟨go,0,none⟩) 19 co) ((EH bs (a+9) i).map nV)::Cn q A m c (a+9+4*i)::F))
     0 (CP rfl rfl rfl rfl rfl) ⟨by omega,by omega,st⟩ ?_
    clear st st1
    rintro i hp ⟨hi,hia,st⟩
    refine AH ?_
    refine AK rfl (fun h=> ?_) (fun h=> ?_)
    ·refine AO ?_
     by_cases h4:4≤8*m - (a+9+4*i)
     ·refine AJ ?_
      refine xk (Jr (k:=4) (st.here.perm (List.Perm.swap _ _ _)) (hrB _ st.low) hl (by omega) hia) rfl ?_
      rintro _ hp2 ⟨rfl,st2⟩
      rw [show wd 32 4=4 from rfl,if_pos h4]at st2
      rw [show wd 32 4=4 from rfl,hbs,if_pos h4,decide_eq_true h4]
      have hlt4:=hn4 i
      replace st:=st.trans (st2.perm (List.Perm.swap _ _ _))
      refine BP ?_
      refine xa (Bm rfl) (AO ?_)
      refine xa (Bj (k':= .i64) rfl rfl (by simp only [AI];omega)) (AC ?_)
      refine BT (EL (o:=0) (i:=i) (v:=nV (CB bs (a+9+4*i) 4)) st 0 rfl (congrArg (fun x=>some (Value.pointer (some ⟨go,x,none⟩))) (by omega)) rfl (by rw [z3,LR];omega) rfl rfl) rfl rfl fun _ hp st=> ?_
      simp only [z0]at st
      rw [HK,ag (by omega)]at st
      refine AL ?_
      exact Ad (i+1) (CP rfl rfl rfl rfl rfl) ⟨by omega,by omega,st⟩ (by omega)
     ·refine AJ ?_
      refine xk (Jr (k:=4) (st.here.perm (List.Perm.swap _ _ _)) (hrB _ st.low) hl (by omega) hia) rfl ?_
      rintro _ hp2 ⟨rfl,st2⟩
      rw [show wd 32 4=4 from rfl,if_neg h4]at st2
      rw [show wd 32 4=4 from rfl,hbs,if_neg h4,zu h4]
      replace st:=st.trans (st2.perm (List.Perm.swap _ _ _))
      refine BP ?_
      refine xa (Bm rfl) (Aj ?_)
      have he2:e=2:=by rw [hH,if_neg (by omega),if_neg (by omega),if_pos (by omega)]
      rw [he2]
      exact ⟨_,_,_,rfl,hia,fun hh=>absurd hh (by omega),fun _=>st.tail⟩
    ·refine AB ?_
     obtain rfl:i=19:=by omega
     have hrdL:=(st.rdS 0 rfl).2
     rw [Hl]at hrdL
     refine AB ?_
     by_cases hR:D5 ((EH bs (a+9) 19).map fun n:Nat=>(n:Int))
     ·refine xk (KC hrdL (by rw [z3,LR]) (by omega)) rfl ?_
      rintro _ hp5 ⟨w,rfl,hx5,hy5,hz5⟩
      refine Aj ?_
      refine xa (Bj (k':= .i64) rfl rfl (by simp only [AI];omega)) (AO ?_)
      have he0:e=0:=by rw [hH,if_neg (by omega),if_neg (by omega),if_neg (by omega),hok,decide_eq_true hR];rfl
      obtain ⟨p,rfl,sc⟩:=hy5 hR
      rw [JE]at sc
      have hlok:=hR.ok
      rw [JE]at hlok
      rw [he0,Oz.2 hR]
      refine ⟨_,_,0,rfl,by omega,fun _=>⟨rfl,by omega,hlok,p,rfl,?_⟩,fun hh=>absurd rfl hh⟩
      have:=st.join sc
      simp only [z5,z4]at this
      exact (this.perm (List.Perm.swap _ _ _)).tail
     ·refine xk (KC hrdL (by rw [z3,LR]) (by omega)) rfl ?_
      rintro _ hp5 ⟨w,rfl,hx5,hy5,hz5⟩
      refine Aj ?_
      refine xa (Bj (k':= .i64) rfl rfl (by simp only [AI];omega)) (AO ?_)
      have he13:e=13:=by rw [hH,if_neg (by omega),if_neg (by omega),if_neg (by omega),hok,zu hR];rfl
      have hec:GP ((EH bs (a+9) 19).map fun n:Nat=>(n:Int))=13:=by unfold GP;rw [if_neg hR]
      rw [he13,hec]
      exact ⟨_,_,_,rfl,hia,fun hh=>absurd hh (by omega),fun _=>(st.ext hx5).tail⟩
 ·refine AL ?_
  refine xk (Jr (k:=9) st (hrB _ st.low) hl (by omega) ha) rfl ?_
  rintro _ hp ⟨rfl,st1⟩
  rw [show wd 32 9=9 from rfl,if_neg h9]at st1
  rw [show wd 32 9=9 from rfl,hbs,if_neg h9,zu h9]
  refine BP ?_
  refine xa (Bm rfl) (Aj ?_)
  have he2:e=2:=by rw [hH,if_pos (by omega)]
  rw [he2]
  exact ⟨_,_,a,rfl,ha,fun hh=>absurd hh (by omega),fun _=>st1⟩
noncomputable def Gt (ls:List Nat) (bs:List Bool) (a:Nat):Nat×Nat×Nat×Nat:=
  if (BJ ls (bs.drop a)).2.2≠0 then (0,0,(BJ ls (bs.drop a)).2.2,a+(BJ ls (bs.drop a)).2.1)else if bs.length<a+(BJ ls (bs.drop a)).2.1+rW (BJ ls (bs.drop a)).1 then (0,0,2,a+(BJ ls (bs.drop a)).2.1)else
    ((BJ ls (bs.drop a)).1,rL (BJ ls (bs.drop a)).1+CB bs (a+(BJ ls (bs.drop a)).2.1) (rW (BJ ls (bs.drop a)).1),0,a+(BJ ls (bs.drop a)).2.1+rW (BJ ls (bs.drop a)).1)
theorem bu {B p q m c a:Nat} {A:Option Addr} {l:List UInt8} {ls:List Nat} {F:List AE} {h0:AA} (st0:St B h0 h0 (Cn q A m c a::CO p ls::F)) (hok:Bi ls) (hrB:∀h',BC B h0 h'→Rd h' A (l.map AN)) (hl:l.length=m) (hm:m≤1073741824) (ha:a≤8*m):
  AG Tryz.prog 283 [.pointer (some ⟨q,0,none⟩),.pointer (some ⟨p,0,none⟩)] h0
   fun v h'=>v=Al [.agg #[nV (Gt ls (AR l) a).1,nV (Gt ls (AR l) a).2.1],nV (Gt ls (AR l) a).2.2.1]∧(Gt ls (AR l) a).2.2.2≤8*m∧St B h0 h' (Cn q A m c (Gt ls (AR l) a).2.2.2::CO p ls::F):=by
 have hbl:(AR l).length=8*m:=by rw [Gk,hl]
 have hle:=Qv ls ((AR l).drop a)
 rw [z7,hbl]at hle
 have hO:Gt ls (AR l) a=if (BJ ls ((AR l).drop a)).2.2≠0 then (0,0,(BJ ls ((AR l).drop a)).2.2,a+(BJ ls ((AR l).drop a)).2.1)else if (AR l).length<a+(BJ ls ((AR l).drop a)).2.1+rW (BJ ls ((AR l).drop a)).1 then (0,0,2,a+(BJ ls ((AR l).drop a)).2.1)else
  ((BJ ls ((AR l).drop a)).1,rL (BJ ls ((AR l).drop a)).1+CB (AR l) (a+(BJ ls ((AR l).drop a)).2.1) (rW (BJ ls ((AR l).drop a)).1),0,a+(BJ ls ((AR l).drop a)).2.1+rW (BJ ls ((AR l).drop a)).1):=rfl
 have hct:=fun {B F h0} (st:St B h0 h0 (Cn q A m c a::CO p ls::F)) hr=>SN (l:=l) st hok hr hl (by omega) ha
 obtain ⟨O,hOe⟩:∃O,Gt ls (AR l) a=O:=⟨_,rfl⟩
 rw [hOe]at hO ⊢
 obtain ⟨⟨s,k,e⟩,hT⟩:∃T,BJ ls ((AR l).drop a)=T:=⟨_,rfl⟩
 simp only [hT]at hO hle hct
 have hw7:=QQ s
 have hnw:=Il (AR l) (a+k) (rW s)
 have hp7:2^rW s≤128:=zw (Nat.pow_le_pow_right (n:=2) (by omega) hw7) (by decide)
 have hrp:rL s≤138:=by unfold rL;split <;> (try split) <;> (try split) <;> omega
 refine Ac Tryz.func283 rfl fun _=>AB ?_
 refine xv (CK rfl) ?_
 rintro _ hp ⟨p4,rfl,hnew⟩
 have st:=st0.new hnew
 replace st:=st.re3
 refine AC ?_
 by_cases he:e=0
 ·refine AH ?_
  refine xk (hct st.here (hrB _ st.low)) rfl ?_
  rintro _ hp2 ⟨rfl,st2⟩
  replace st:=st.trans st2
  refine Bu ?_
  refine AT (.bool false) (congrArg Value.bool (zu (by omega))) (AL ?_)
  refine xk (Oh s _) rfl ?_
  rintro _ _ ⟨rfl,rfl⟩
  refine AO ?_
  by_cases hw:rW s≤8*m - (a+k)
  ·refine AH ?_
   refine xk (Jr (k:=((rW s:Nat):Int)) st.here (hrB _ st.low) hl (by omega) (by omega)) rfl ?_
   rintro _ hp3 ⟨rfl,st3⟩
   rw [Kn (by omega),if_pos hw]at st3
   rw [Kn (by omega),if_pos hw,decide_eq_true hw]
   replace st:=st.trans st3
   refine BP ?_
   refine xa (Bm rfl) (AP ?_)
   refine xa (Bj (k':= .i64) rfl rfl (by simp only [AI];omega)) (AC ?_)
   refine xa (AZ (ps:=[(0,nV s),(1,nV (rL s+CB (AR l) (a+k) (rW s)))]) (cs:= #[nV s,nV (rL s+CB (AR l) (a+k) (rW s))]) rfl rfl) ?_
   refine xw (us:=[nV s,nV (rL s+CB (AR l) (a+k) (rW s))]) st 2 (Cz [s,_]) fun hp st=> ?_
   simp only [z0,z1]at st
   refine AB ?_
   refine Af (.cons (Ax (vs:=[nV s,nV (rL s+CB (AR l) (a+k) (rW s))]) rfl rfl rfl (st.cells 2 rfl)) (.cons (.tmp rfl) .nil)) ?_
   rw [if_neg (by omega),if_neg (by omega)]at hO
   rw [hO]
   exact ⟨rfl,by simp only;omega,st.re3'⟩
  ·refine AH ?_
   refine xk (Jr (k:=((rW s:Nat):Int)) st.here (hrB _ st.low) hl (by omega) (by omega)) rfl ?_
   rintro _ hp3 ⟨rfl,st3⟩
   rw [Kn (by omega),if_neg hw]at st3
   rw [Kn (by omega),if_neg hw,zu hw]
   replace st:=st.trans st3
   refine BP ?_
   refine xa (Bm rfl) (AJ ?_)
   refine xa (AZ (ps:=[]) (cs:= #[nV 0,nV 0]) rfl rfl) ?_
   refine xw (us:=[nV 0,nV 0]) st 2 (Cz [0,0]) fun hp st=> ?_
   simp only [z0,z1]at st
   refine AB ?_
   refine Af (.cons (Ax (vs:=[nV 0,nV 0]) rfl rfl rfl (st.cells 2 rfl)) (.cons (.tmp rfl) .nil)) ?_
   rw [if_neg (by omega),if_pos (by omega)]at hO
   rw [hO]
   exact ⟨rfl,by simp only;omega,st.re3'⟩
 ·refine AH ?_
  refine xk (hct st.here (hrB _ st.low)) rfl ?_
  rintro _ hp2 ⟨rfl,st2⟩
  replace st:=st.trans st2
  refine Bu ?_
  refine AT (.bool true) (congrArg Value.bool (decide_eq_true (by omega))) (AJ ?_)
  refine xa (AZ (ps:=[]) (cs:= #[nV 0,nV 0]) rfl rfl) (AC ?_)
  refine xw (us:=[nV 0,nV 0]) st 2 (Cz [0,0]) fun hp st=> ?_
  simp only [z0,z1]at st
  refine AB ?_
  refine Af (.cons (Ax (vs:=[nV 0,nV 0]) rfl rfl rfl (st.cells 2 rfl)) (.cons (.tmp rfl) .nil)) ?_
  rw [if_pos he]at hO
  rw [hO]
  exact ⟨rfl,by simp only;omega,st.re3'⟩
end Go.Bn
end

section
namespace Go.Bn
open Go Proofs
theorem Xe {B s m:Nat} {v:Value} {l:List Nat} {F:List AE} {h0:AA} (st:St B h0 h0 (Bn.row 3 1 v (l.map nV)::F)) (hs:s<19) (hm1:rL s≤m) (hm2:m≤rH s) (hl:l.length≤65536) (hz:s=16∧l.length=0):
  AG Tryz.prog 284 [v,.agg #[nV s,nV m]] h0 fun u h'=>u=Al [.slice none 0 0,nV 3]∧St B h0 h' F:=by
 refine (RW st hs hm1 hm2 hl).mono ?_
 rintro u h' (⟨_,_,h⟩ | ⟨h,_⟩)
 ·exact h
 ·exact absurd hz h
theorem Xf {B s m:Nat} {v:Value} {l:List Nat} {F:List AE} {h0:AA} (st:St B h0 h0 (Bn.row 3 1 v (l.map nV)::F)) (hs:s<19) (hm1:rL s≤m) (hm2:m≤rH s) (hl:l.length≤65536) (hz:¬ (s=16∧l.length=0)):
  AG Tryz.prog 284 [v,.agg #[nV s,nV m]] h0 fun u h'=>∃w,u=Al [w,nV 0]∧St B h0 h' (Bn.row 3 1 w ((IN l s m).map nV)::F):=by
 refine (RW st hs hm1 hm2 hl).mono ?_
 rintro u h' (⟨h1,h2,_⟩ | ⟨_,h⟩)
 ·exact absurd ⟨h1,h2⟩ hz
 ·exact h
theorem Zy {ls:List Nat} {bs:List Bool} {n f a:Nat} {l:List Nat} (h:l.length<n) {x y e a2:Nat} (hO:Gt ls bs a=(x,y,e,a2)):
  F1 ls bs n (f+1) a l=if e≠0 then ([],0,e)else if x=16∧l.length=0 then ([],0,3)else if n<l.length+y then ([],0,3)else F1 ls bs n f a2 (IN l x y):=by
 rw [F1,if_neg (by omega)]
 unfold Gt at hO
 by_cases h1:(BJ ls (bs.drop a)).2.2≠0
 ·rw [if_pos h1]at hO ⊢
  cases hO
  rw [if_pos h1]
 ·rw [if_neg h1]at hO ⊢
  by_cases h2:bs.length<a+(BJ ls (bs.drop a)).2.1+rW (BJ ls (bs.drop a)).1
  ·rw [if_pos h2]at hO ⊢
   cases hO
   rw [if_pos (by omega)]
  ·rw [if_neg h2]at hO ⊢
   cases hO
   rw [if_neg (show ¬ (0:Nat)≠0 by omega)]
theorem bp {ls:List Nat} {bs:List Bool} {a x y a2:Nat} (hok:Bi ls) (hO:Gt ls bs a=(x,y,0,a2)):x<ls.length∧rL x≤y∧y≤rH x:=by
 unfold Gt at hO
 split at hO
 ·rename_i h
  have:=congrArg (fun z=>z.2.2.1) hO
  simp only at this
  omega
 ·rename_i h
  split at hO
  ·have:=congrArg (fun z=>z.2.2.1) hO
   simp at this
  ·have hs:=OC hok (Decidable.not_not.1 h)
   obtain ⟨hs1,_⟩:=hs
   cases hO
   exact ⟨hs1,Nat.le_add_right _ _,di (Il _ _ _)⟩
theorem Z3 {bs:List Bool} {a:Nat} {ok:Bool} (h:Fh bs a ok=0):1≤CB bs a 9∧CB bs a 9≤320:=by
 unfold Fh at h
 split at h
 ·omega
 ·split at h
  ·omega
  ·omega
theorem VI {a b c:AE} {F:List AE}:(a::b::c::F).Perm (c::b::a::F):=
 ((List.Perm.swap _ _ _).trans ((List.Perm.swap _ _ _).cons _)).trans (List.Perm.swap _ _ _)
theorem Vj {B q m c a:Nat} {A:Option Addr} {l:List UInt8} {F:List AE} {h0:AA} (st0:St B h0 h0 (Cn q A m c a::F)) (hrB:∀h',BC B h0 h'→Rd h' A (l.map AN)) (hl:l.length=m) (hm:m≤1073741824) (ha:a≤8*m):
  AG Tryz.prog 256 [.pointer (some ⟨q,0,none⟩)] h0 fun v h'=>∃w a',v=Al [w,nV (CS (AR l) a (B0 (AR l) a)).2.2]∧a'≤8*m∧((CS (AR l) a (B0 (AR l) a)).2.2=0→a'=(CS (AR l) a (B0 (AR l) a)).2.1)∧
   St B h0 h' (Bn.row 3 1 w ((CS (AR l) a (B0 (AR l) a)).1.map nV)::Cn q A m c a'::F):=by
 have hR:CS (AR l) a (B0 (AR l) a)=if Fh (AR l) a (B0 (AR l) a)≠0 then ([],0,Fh (AR l) a (B0 (AR l) a))else F1 (EH (AR l) (a+9) 19) (AR l) (CB (AR l) a 9) 321 (a+85) []:=rfl
 obtain ⟨R,hRe⟩:∃R,CS (AR l) a (B0 (AR l) a)=R:=⟨_,rfl⟩
 rw [hRe]at hR ⊢
 refine BE Tryz.func256 rfl fun _=>AF ?_
 by_cases he:Fh (AR l) a (B0 (AR l) a)=0
 ·refine B3 ?_
  refine xk (TJ st0 hrB hl hm ha) rfl ?_
  rintro _ hp ⟨n',w',a1,rfl,ha1,hok1,hbad1⟩
  refine B3 ?_
  refine AT (.bool false) (congrArg Value.bool (zu (by omega))) (Aj ?_)
  obtain ⟨rfl,ha85,hlok,p,rfl,st⟩:=hok1 he
  obtain ⟨hn1,hn320⟩:=Z3 he
  rw [if_neg (by omega)]at hR
  have h19:=LR (AR l) (a+9) 19
  obtain ⟨ls,hls⟩:∃ls,EH (AR l) (a+9) 19=ls:=⟨_,rfl⟩
  obtain ⟨n,hn⟩:∃n,CB (AR l) a 9=n:=⟨_,rfl⟩
  rw [hls]at st hlok hR h19
  rw [hn]at hR hn1 hn320 ⊢
  clear hok1 hbad1
  replace st:=st.nilrow 3 1
  refine BD (fun s=>n-s.2.2.1.length) (fun s=>[(0,.pointer (some ⟨q,0,none⟩)),(4,nV n),(5,.pointer (some ⟨p,0,none⟩)),(7,s.2.2.2)])
   (fun (s:Nat×Nat×List Nat×Value) hp=>F1 ls (AR l) n s.1 s.2.1 s.2.2.1=R∧n<s.1+s.2.2.1.length∧s.2.2.1.length≤n∧s.2.1≤8*m∧St B h0 hp (Bn.row 3 1 s.2.2.2 (s.2.2.1.map nV)::CO p ls::Cn q A m c s.2.1::F))
   (321,a+85,[],_) (Bt rfl rfl rfl rfl) ⟨hR.symm,by simp only [zk];omega,by simp,ha85,st⟩ ?_
  clear st hR
  rintro ⟨f,a1,L,v⟩ hp ⟨hg,hf,hLn,ha1,st⟩
  simp only at hg hf hLn ha1 st ⊢
  obtain ⟨A9,n9,c9,rfl,hl9,_,_,_⟩:=st.row 0 rfl
  rw [z3,zf]at hl9
  refine AP ?_
  refine AK rfl (fun h=> ?_) (fun h=> ?_)
  ·obtain ⟨f',rfl⟩:∃f',f=f'+1:=⟨f-1,by omega⟩
   obtain ⟨⟨x,y,e,a2⟩,hO⟩:∃O,Gt ls (AR l) a1=O:=⟨_,rfl⟩
   rw [Zy (by omega) hO]at hg
   have h1:=bu (st.here.perm VI) hlok (fun h' hx=>hrB h' (st.low.trans hx)) hl hm ha1
   rw [hO]at h1
   simp only at h1
   refine AL ?_
   refine xk (h1) rfl ?_
   rintro _ hp2 ⟨rfl,ha2,st2⟩
   replace st:=st.trans (st2.perm VI)
   refine AF ?_
   refine xn st fun p8 hp st=> ?_
   refine xw (us:=[nV x,nV y]) st 0 (Cz [x,y]) fun hp st=> ?_
   simp only [z0]at st
   refine AP ?_
   refine AK rfl (fun h=> ?_) (fun h=> ?_)
   ·obtain rfl:e=0:=by omega
    obtain ⟨hx19,hy1,hy2⟩:=bp hlok hO
    have hrh:=QO x
    rw [if_neg (show ¬ (0:Nat)≠0 by omega)]at hg
    refine AB ?_
    refine xa (Ai (st.cells 0 rfl) rfl rfl rfl rfl) ?_
    by_cases hz:x=16∧L.length=0
    ·refine xk (Xe (st.here.perm (List.Perm.swap _ _ _)) (by omega) hy1 hy2 (by omega) hz) rfl ?_
     rintro _ hp3 ⟨rfl,st3⟩
     replace st:=st.trans st3
     rw [if_pos hz]at hg
     refine HQ ?_
     rw [←hg]
     exact ⟨_,a2,rfl,ha2,fun hh=>absurd hh (by decide),(st.tail.tail.nilrow 3 1)⟩
    ·refine xk (Xf (st.here.perm (List.Perm.swap _ _ _)) (by omega) hy1 hy2 (by omega) hz) rfl ?_
     rintro _ hp3 ⟨w3,rfl,st3⟩
     replace st:=st.trans st3
     rw [if_neg hz]at hg
     obtain ⟨A8,n8,c8,rfl,hl8,_,_,_⟩:=st.row 0 rfl
     rw [z3,zf,Nz]at hl8
     refine IU ?_
     refine AK rfl (fun h=> ?_) (fun h=> ?_)
     ·refine AL ?_
      rw [if_pos (show n<L.length+y by omega)]at hg
      rw [←hg]
      exact ⟨_,a2,rfl,ha2,fun hh=>absurd hh (by decide),(st.tail.tail.tail.nilrow 3 1)⟩
     ·refine AF ?_
      rw [if_neg (show ¬n<L.length+y by omega)]at hg
      have st9:=(st.perm ((List.Perm.swap _ _ _))).tail
      have hrp:=QP x
      exact Ad (f',a2,IN L x y,_) (Bt rfl rfl rfl rfl) ⟨hg,by simp only [Nz];omega,by simp only [Nz];omega,ha2,st9⟩ (by simp only [Nz];have:=QP x;omega)
   ·refine AP ?_
    refine AK rfl (fun h=> ?_) (fun h=> ?_)
    ·refine AO ?_
     rw [if_pos (show e≠0 by omega)]at hg
     rw [←hg]
     exact ⟨_,a2,rfl,ha2,fun hh=>absurd hh (by simp only;omega),(st.tail.tail.tail.nilrow 3 1)⟩
    ·exact absurd h (by omega)
  ·refine AP ?_
   obtain ⟨f',rfl⟩:∃f',f=f'+1:=⟨f-1,by omega⟩
   rw [F1,if_pos (by omega)]at hg
   rw [←hg]
   exact ⟨_,a1,rfl,ha1,fun _=>rfl,(st.perm ((List.Perm.swap _ _ _))).tail⟩
 ·refine B3 ?_
  refine xk (TJ st0 hrB hl hm ha) rfl ?_
  rintro _ hp ⟨n',w',a1,rfl,ha1,hok1,hbad1⟩
  refine B3 ?_
  refine AT (.bool true) (congrArg Value.bool (decide_eq_true (by omega))) (Aj ?_)
  rw [if_pos he]at hR
  rw [hR]
  exact ⟨_,a1,rfl,ha1,fun hh=>absurd hh he,(hbad1 he).nilrow 3 1⟩
end Go.Bn
end

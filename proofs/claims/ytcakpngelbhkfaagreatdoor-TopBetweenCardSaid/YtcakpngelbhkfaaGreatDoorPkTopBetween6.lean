/- Packed texts of a claim: what its theorem uses, joined. -/
import Derived.Test.YtcakpngelbhkfaaGreatDoorPkTopBetween5
set_option maxRecDepth 100000
set_option maxHeartbeats 4000000
set_option linter.unusedVariables false
set_option linter.unusedSimpArgs false
set_option linter.unusedSectionVars false
set_option linter.defProp false
section
namespace Go.Bn
structure BQ where
  num:Int
  bits:Int
  ext:Int
  deriving DecidableEq
def BQ.nil:BQ:=⟨0,0,0⟩
def BO (i:Nat):Nat:=if i<4 then 0 else i/2-1
def CY:Nat→Nat
  | 0=>0
  | i+1=>CY i+2^BO i
def DX (v:Nat):Nat:=if v=0 then 0 else Nat.log2 v+1
theorem Iz (k:Nat):0<2^k:=Nat.pow_pos (by omega)
theorem Ro (n:Nat):CY (2*(n+1)+2)=2*2^(n+1)∧CY (2*(n+1)+3)=3*2^(n+1):=by
 induction n with
 | zero=>decide
 | succ n ih=>
  have b3:BO (2*(n+1)+3)=n+1:=by unfold BO;rw [if_neg (by omega)];omega
  have b2:BO (2*(n+1+1)+2)=n+1+1:=by unfold BO;rw [if_neg (by omega)];omega
  have e1:CY (2*(n+1+1)+2)=CY (2*(n+1)+3)+2^(n+1):=by
   rw [show 2*(n+1+1)+2=(2*(n+1)+3)+1 by omega,CY,b3]
  have e2:CY (2*(n+1+1)+3)=CY (2*(n+1+1)+2)+2^(n+1+1):=by
   conv=>lhs;rw [show 2*(n+1+1)+3=(2*(n+1+1)+2)+1 from rfl,CY,b2]
  rw [ih.2]at e1
  refine ⟨by rw [e1,Nat.pow_succ 2 (n+1)];omega,by rw [e2,e1,Nat.pow_succ 2 (n+1)];omega⟩
theorem Rp (i:Nat) (h:4≤i):CY i=(2+i%2)*2^(i/2-1):=by
 rcases (by omega:i%2=0∨i%2=1)with h2 | h2
 ·obtain ⟨n,rfl⟩:∃n,i=2*(n+1)+2:=⟨i/2-2,by omega⟩
  rw [(Ro n).1,h2,show (2*(n+1)+2)/2-1=n+1 by omega]
 ·obtain ⟨n,rfl⟩:∃n,i=2*(n+1)+3:=⟨i/2-2,by omega⟩
  rw [(Ro n).2,h2,show (2*(n+1)+3)/2-1=n+1 by omega]
theorem Mh:∀i,i<5→CY i=i:=by decide
theorem YA (i:Nat):CY i<CY (i+1):=by
 rw [CY];have:=Iz (BO i);omega
theorem K4 {i j:Nat} (h:i≤j):CY i≤CY j:=by
 induction j with
 | zero=>
  obtain rfl:i=0:=by omega
  exact Nat.le_refl _
 | succ j ih=>
  rcases Nat.lt_or_ge j i with h1 | h1
  ·obtain rfl:i=j+1:=by omega
   exact Nat.le_refl _
  ·have:=ih h1;have:=YA j;omega
def CW (v:Nat):Nat:=if v<4 then v else 2*(DX v-2)+v/2^(DX v-2)
theorem ae {v:Nat} (h:4≤v):3≤DX v∧2^(DX v-1)≤v∧v<2^DX v:=by
 have h0:v≠0:=by omega
 have e:DX v=Nat.log2 v+1:=by unfold DX;rw [if_neg h0]
 have h1:=Nat.log2_self_le h0
 have h2:v<2^(Nat.log2 v+1):=Nat.lt_log2_self
 have h3:2≤Nat.log2 v:=(Nat.le_log2 h0).2 (by omega)
 rw [e]
 exact ⟨by omega,by simpa using h1,h2⟩
theorem TY {v:Nat} (h:4≤v):∃n q,DX v=n+2∧1≤n∧(q=2∨q=3)∧v/2^n=q∧CW v=2*n+q∧BO (2*n+q)=n∧CY (2*n+q)=q*2^n∧q*2^n+v%2^n=v:=by
 obtain ⟨h1,h2,h3⟩:=ae h
 obtain ⟨n,hn⟩:∃n,DX v=n+2:=⟨DX v-2,by omega⟩
 rw [hn,show n+2-1=n+1 by omega]at h2
 rw [hn]at h3
 have p1:2^(n+1)=2*2^n:=by rw [Nat.pow_succ,Nat.mul_comm]
 have p2:2^(n+2)=4*2^n:=by rw [Nat.pow_succ,p1];omega
 have hd:=Nat.div_add_mod v (2^n)
 have hm:=Nat.mod_lt v (Iz n)
 have hq:v/2^n=2∨v/2^n=3:=by
  have a1:2≤v/2^n:=(Nat.le_div_iff_mul_le (Iz n)).2 (by omega)
  have a2:v/2^n<4:=(Nat.div_lt_iff_lt_mul (Iz n)).2 (by omega)
  omega
 refine ⟨n,v/2^n,hn,by omega,hq,rfl,?_,?_,?_,?_⟩
 ·unfold CW;rw [if_neg (by omega),hn];rfl
 ·unfold BO;rw [if_neg (by omega)];omega
 ·rw [Rp _ (by omega)]
  rcases hq with e | e <;> rw [e]
  ·rw [show (2+(2*n+2)%2)=2 by omega,show (2*n+2)/2-1=n by omega]
  ·rw [show (2+(2*n+3)%2)=3 by omega,show (2*n+3)/2-1=n by omega]
 ·rw [Nat.mul_comm];exact hd
theorem JQ (v:Nat):CY (CW v)≤v∧v<CY (CW v+1)∧(v<32768→CW v<30):=by
 rcases Nat.lt_or_ge v 4 with h | h
 ·have e:CW v=v:=by unfold CW;rw [if_pos h]
  rw [e,Mh v (by omega),Mh (v+1) (by omega)]
  exact ⟨Nat.le_refl _,by omega,fun _=>by omega⟩
 ·obtain ⟨n,q,hn,hn1,hq,hv,hc,hb,hbase,hsum⟩:=TY h
  have hm:=Nat.mod_lt v (Iz n)
  rw [hc,CY,hbase,hb]
  refine ⟨by omega,by omega,fun hlt=> ?_⟩
  have h2:2^(n+1)<2^15:=by
   have:q*2^n≤v:=by omega
   rw [Nat.pow_succ]
   rcases hq with rfl | rfl <;> omega
  have:=(Nat.pow_lt_pow_iff_right (by omega:1<2)).1 h2
  omega
theorem aI {v c:Nat} (h1:CY c≤v) (h2:v<CY (c+1)):CW v=c:=by
 obtain ⟨g1,g2,_⟩:=JQ v
 rcases Nat.lt_or_ge (CW v) c with h | h
 ·have:=K4 (show CW v+1≤c by omega);omega
 ·rcases Nat.lt_or_ge c (CW v)with h' | h'
  ·have:=K4 (show c+1≤CW v by omega);omega
  ·omega
theorem aH {v w:Nat} (h:v≤w):CW v≤CW w:=by
 obtain ⟨g1,_,_⟩:=JQ v
 obtain ⟨_,k2,_⟩:=JQ w
 rcases Nat.lt_or_ge (CW w) (CW v)with h' | h'
 ·have:=K4 (show CW w+1≤CW v by omega);omega
 ·exact h'
def CG (v:Nat):BQ:=⟨CW v,BO (CW v),((v-CY (CW v):Nat):Int)⟩
theorem aK {v:Nat} (h:v<4):CG v=⟨v,0,0⟩:=by
 have e:CW v=v:=by unfold CW;rw [if_pos h]
 unfold CG
 rw [e,Mh v (by omega)]
 unfold BO
 rw [if_pos h];simp
theorem aJ {v n q:Nat} (hc:CW v=2*n+q) (hb:BO (2*n+q)=n) (hbase:CY (2*n+q)=q*2^n) (hsum:q*2^n+v%2^n=v):CG v=⟨((2*n+q:Nat):Int),n,((v%2^n:Nat):Int)⟩:=by
 unfold CG
 rw [hc,hb,hbase,show v-q*2^n=v%2^n by omega]
def F5 (v:Int):BQ×Bool:=if v<0∨32767<v then (BQ.nil,false)else (CG v.toNat,true)
def Ek (c:BQ):Option Nat:=
  if c.num<0∨30≤c.num then none
  else if c.bits≠BO c.num.toNat then none
  else if (2:Int)^BO c.num.toNat≤c.ext then none
  else some (CY c.num.toNat+c.ext.toNat)
theorem gO {c:BQ} {v:Nat} (h:Ek c=some v):0≤c.num∧c.num<30∧c.bits=BO c.num.toNat∧c.ext < (2:Int)^BO c.num.toNat∧v=CY c.num.toNat+c.ext.toNat:=by
 unfold Ek at h
 split at h
 ·cases h
 ·split at h
  ·cases h
  ·split at h
   ·cases h
   ·cases h
    rename_i a b d
    exact ⟨by omega,by omega,Decidable.not_not.1 b,by omega,rfl⟩
theorem gK {c:BQ} {v:Nat} (h:Ek c=some v):v<65536:=by
 obtain ⟨h1,h2,h3,h4,h5⟩:=gO h
 have hb:c.ext.toNat<2^BO c.num.toNat:=by
  have:((2^BO c.num.toNat:Nat):Int)=(2:Int)^BO c.num.toNat:=by rw [Int.natCast_pow];rfl
  have:=Iz (BO c.num.toNat)
  omega
 have:=K4 (show c.num.toNat+1≤30 by omega)
 rw [CY,show CY 30=65536/2 by decide]at this
 omega
theorem Wz {v:Nat} (h:v<32768):Ek (CG v)=some v:=by
 obtain ⟨g1,g2,g3⟩:=JQ v
 have:=g3 h
 have hp:((2^BO (CW v):Nat):Int)=(2:Int)^BO (CW v):=by rw [Int.natCast_pow];rfl
 rw [CY]at g2
 unfold Ek CG
 simp only [Int.toNat_natCast]
 rw [if_neg (by omega),if_neg (by simp),if_neg (by rw [←hp];omega)]
 congr 1;omega
structure AW where
  byte:Int
  len:Int
  dist:Int
  deriving DecidableEq
def AW.nil:AW:=⟨0,0,0⟩
def AW.right (t:AW):Prop:=if t.len=0 then t.dist=0 else t.byte=0∧3≤t.len∧t.len≤258∧1≤t.dist∧t.dist≤32768
instance (t:AW):Decidable t.right:=by unfold AW.right;infer_instance
structure Sy where
  a:BQ
  b:BQ
  m:Bool
  deriving DecidableEq
def Sy.nil:Sy:=⟨BQ.nil,BQ.nil,false⟩
def BH (t:AW):Sy:=
  if t.len=0 then ⟨⟨t.byte,0,0⟩,BQ.nil,false⟩
  else ⟨⟨(CG (t.len-3).toNat).num+257,(CG (t.len-3).toNat).bits,(CG (t.len-3).toNat).ext⟩,CG (t.dist-1).toNat,true⟩
def Iw (t:AW):Sy×Bool:=if t.right then (BH t,true)else (Sy.nil,false)
def ID (r:Sy):AW×Bool:=
  match Ek ⟨r.a.num-257,r.a.bits,r.a.ext⟩,Ek r.b with
  | some x,some y=>if (AW.mk 0 (x+3) (y+1)).right then (AW.mk 0 (x+3) (y+1),true)else (AW.nil,false)
  | _,_=>(AW.nil,false)
def DP (r:Sy):AW×Bool:=
  if r.m=true then (if 257≤r.a.num∧r.a.num<273 then ID r else (AW.nil,false))
  else if 0≤r.a.num∧r.a.num<256∧r=⟨⟨r.a.num,0,0⟩,BQ.nil,false⟩then (⟨r.a.num,0,0⟩,true)
  else (AW.nil,false)
theorem PR {v:Nat} (h:v<256):CW v<16:=by
 have:=aH (show v≤255 by omega)
 have e:CW 255=15:=aI (by decide) (by decide)
 omega
theorem ND {t:AW} (h:t.right) (hb:0≤t.byte∧t.byte<256):DP (BH t)=(t,true)∧0≤(BH t).a.num∧(BH t).a.num<273∧(BH t).a.num≠256∧0≤(BH t).b.num∧(BH t).b.num<30:=by
 have h':=h
 unfold AW.right at h
 by_cases h0:t.len=0
 ·rw [if_pos h0]at h
  have e:BH t=⟨⟨t.byte,0,0⟩,BQ.nil,false⟩:=by unfold BH;rw [if_pos h0]
  rw [e]
  refine ⟨?_,by simp only;omega,by simp only;omega,by simp only;omega,by simp [BQ.nil],by simp [BQ.nil]⟩
  unfold DP
  rw [if_neg (by simp),if_pos ⟨hb.1,hb.2,rfl⟩]
  cases t;simp only at*;subst h0 h;rfl
 ·rw [if_neg h0]at h
  obtain ⟨h1,h2,h3,h4,h5⟩:=h
  have e:BH t=⟨⟨(CG (t.len-3).toNat).num+257,(CG (t.len-3).toNat).bits,(CG (t.len-3).toNat).ext⟩,CG (t.dist-1).toNat,true⟩:=by unfold BH;rw [if_neg h0]
  have c1:(t.len-3).toNat<256:=by omega
  have c2:(t.dist-1).toNat<32768:=by omega
  have k1:=PR c1
  have k2:=(JQ (t.dist-1).toNat).2.2 c2
  have n1:(CG (t.len-3).toNat).num=CW (t.len-3).toNat:=rfl
  have n2:(CG (t.dist-1).toNat).num=CW (t.dist-1).toNat:=rfl
  rw [e]
  refine ⟨?_,by simp only;omega,by simp only;omega,by simp only;omega,by simp only;omega,by simp only;omega⟩
  unfold DP
  rw [if_pos rfl,if_pos (by simp only;omega)]
  unfold ID
  simp only [show (CG (t.len-3).toNat).num+257-257=(CG (t.len-3).toNat).num by omega]
  rw [show (BQ.mk (CG (t.len-3).toNat).num (CG (t.len-3).toNat).bits (CG (t.len-3).toNat).ext)=CG (t.len-3).toNat from rfl,Wz (by omega),Wz c2]
  have et:AW.mk 0 (((t.len-3).toNat:Int)+3) (((t.dist-1).toNat:Int)+1)=t:=by
   cases t;simp only at*;congr 1 <;> omega
  simp only [et]
  rw [if_pos h']
end Go.Bn
end

section
namespace Go.Bn
noncomputable def CA (ls:List Nat) (fr:Nat) (bs:List Bool) (a:Nat):BQ×Nat×Nat:=
  if (BJ ls (bs.drop a)).2.2≠0∨(BJ ls (bs.drop a)).1<fr then (⟨(BJ ls (bs.drop a)).1,0,0⟩,a+(BJ ls (bs.drop a)).2.1,(BJ ls (bs.drop a)).2.2)
  else if bs.length - (a+(BJ ls (bs.drop a)).2.1)<BO ((BJ ls (bs.drop a)).1-fr)then (BQ.nil,a+(BJ ls (bs.drop a)).2.1,2)
  else (⟨(BJ ls (bs.drop a)).1,BO ((BJ ls (bs.drop a)).1-fr),(CB bs (a+(BJ ls (bs.drop a)).2.1) (BO ((BJ ls (bs.drop a)).1-fr)):Nat)⟩,a+(BJ ls (bs.drop a)).2.1+BO ((BJ ls (bs.drop a)).1-fr),0)
noncomputable def Cy (la lb:List Nat) (bs:List Bool) (a:Nat):AW×Nat×Bool×Nat:=
  if (CA la 257 bs a).2.2≠0∨(CA la 257 bs a).1.num=256 then (AW.nil,(CA la 257 bs a).2.1,true,(CA la 257 bs a).2.2)
  else if 256 < (CA la 257 bs a).1.num then
    if (CA lb 0 bs (CA la 257 bs a).2.1).2.2≠0 then (AW.nil,(CA lb 0 bs (CA la 257 bs a).2.1).2.1,true,(CA lb 0 bs (CA la 257 bs a).2.1).2.2)
    else if (DP ⟨(CA la 257 bs a).1,(CA lb 0 bs (CA la 257 bs a).2.1).1,true⟩).2=true then ((DP ⟨(CA la 257 bs a).1,(CA lb 0 bs (CA la 257 bs a).2.1).1,true⟩).1,(CA lb 0 bs (CA la 257 bs a).2.1).2.1,false,0)
    else (AW.nil,(CA lb 0 bs (CA la 257 bs a).2.1).2.1,true,3)
  else if (DP ⟨(CA la 257 bs a).1,BQ.nil,false⟩).2=true then ((DP ⟨(CA la 257 bs a).1,BQ.nil,false⟩).1,(CA la 257 bs a).2.1,false,0)
  else (AW.nil,(CA la 257 bs a).2.1,true,3)
def AW.size (t:AW):Nat:=max 1 t.len.toNat
noncomputable def FA (la lb:List Nat) (bs:List Bool) (most:Int):Nat→Nat→Nat→List AW→List AW×Nat×Nat×Nat
  | 0,_,_,_=>([],0,0,2)
  | f+1,a,sz,acc=>
    if (Cy la lb bs a).2.2.1=true then (if (Cy la lb bs a).2.2.2≠0 then ([],0,0,(Cy la lb bs a).2.2.2)else (acc,sz,(Cy la lb bs a).2.1,0))
    else if (sz:Int) < (Cy la lb bs a).1.dist then ([],0,0,3)
    else if most-sz < (Cy la lb bs a).1.size then ([],0,0,5)
    else FA la lb bs most f (Cy la lb bs a).2.1 (sz+(Cy la lb bs a).1.size) (acc++[(Cy la lb bs a).1])
def Cr (l:List Nat):List Int:=l.map fun n:Nat=>(n:Int)
noncomputable def Df (bs:List Bool) (a:Nat):Nat×List Nat×List Nat×Nat:=
  if (CS bs a (B0 bs a)).2.2≠0 then ((CS bs a (B0 bs a)).2.2,[],[],0)
  else if (CS bs (CS bs a (B0 bs a)).2.1 (B0 bs (CS bs a (B0 bs a)).2.1)).2.2≠0 then ((CS bs (CS bs a (B0 bs a)).2.1 (B0 bs (CS bs a (B0 bs a)).2.1)).2.2,[],[],0)
  else if (CS bs a (B0 bs a)).1.length≠273∨(CS bs (CS bs a (B0 bs a)).2.1 (B0 bs (CS bs a (B0 bs a)).2.1)).1.length≠30 then (3,[],[],0)
  else if ¬D5 (Cr (CS bs a (B0 bs a)).1)∨¬D5 (Cr (CS bs (CS bs a (B0 bs a)).2.1 (B0 bs (CS bs a (B0 bs a)).2.1)).1)then (13,[],[],0)
  else (0,(CS bs a (B0 bs a)).1,(CS bs (CS bs a (B0 bs a)).2.1 (B0 bs (CS bs a (B0 bs a)).2.1)).1,(CS bs (CS bs a (B0 bs a)).2.1 (B0 bs (CS bs a (B0 bs a)).2.1)).2.1)
noncomputable def De (bs:List Bool) (most:Int):List AW×Nat×Nat×Nat:=
  if (Df bs 0).1≠0 then ([],0,0,(Df bs 0).1)else FA (Df bs 0).2.1 (Df bs 0).2.2.1 bs most (bs.length+1) (Df bs 0).2.2.2 0 []
theorem JC (l:List Nat):(Cr l).map Int.toNat=l:=JE l
structure XP (bs:List Bool) (la lb:List Nat) (a:Nat):Prop where
  oka:Bi la
  okb:Bi lb
  lena:la.length=273
  lenb:lb.length=30
theorem SF {bs:List Bool} {a:Nat} (h:(Df bs a).1=0):XP bs (Df bs a).2.1 (Df bs a).2.2.1 a:=by
 revert h
 unfold Df
 obtain ⟨X,hX⟩:∃X,CS bs a (B0 bs a)=X:=⟨_,rfl⟩
 rw [hX]
 obtain ⟨Y,hY⟩:∃Y,CS bs X.2.1 (B0 bs X.2.1)=Y:=⟨_,rfl⟩
 rw [hY]
 split
 ·intro h;exact absurd h ‹_›
 ·split
  ·intro h;exact absurd h ‹_›
  ·split
   ·intro h;cases h
   ·split
    ·intro h;cases h
    ·rename_i h3 h4
     intro _
     have h5:D5 (Cr X.1)∧D5 (Cr Y.1):=by
      constructor
      ·exact Classical.byContradiction fun hn=>h4 (.inl hn)
      ·exact Classical.byContradiction fun hn=>h4 (.inr hn)
     have k1:=h5.1.ok
     have k2:=h5.2.ok
     rw [JC]at k1 k2
     exact ⟨k1,k2,by simp only;omega,by simp only;omega⟩
theorem Qw {ls:List Nat} (hok:Bi ls) (bs:List Bool):(BJ ls bs).1<ls.length∨(BJ ls bs).1=0:=by
 by_cases h:(BJ ls bs).2.2=0
 ·obtain ⟨h1,_⟩:=OC hok h
  exact .inl h1
 ·refine .inr ?_
  rw [Wf hok]at h ⊢
  unfold Ix at h ⊢
  cases hf:(GY ls).find? (Hj bs)with
  | some c=>rw [hf]at h;exact absurd rfl h
  | none=>simp only;split <;> rfl
theorem SC {ls:List Nat} {fr:Nat} {bs:List Bool} {a:Nat} (hok:Bi ls) (hl:ls.length≤fr+30) (hl2:ls.length≤320):0≤(CA ls fr bs a).1.num∧(CA ls fr bs a).1.num<320∧0≤(CA ls fr bs a).1.ext∧(CA ls fr bs a).1.ext<4294967296:=by
 have h1:(BJ ls (bs.drop a)).1<320:=by
  have:=hok.1
  rcases Qw hok (bs.drop a)with h | h <;> omega
 unfold CA
 split
 ·exact ⟨by simp only;omega,by simp only;omega,by simp only;omega,by simp only;omega⟩
 ·split
  ·exact ⟨by simp [BQ.nil],by simp [BQ.nil],by simp [BQ.nil],by simp [BQ.nil]⟩
  ·rename_i h2 h3
   have hb:BO ((BJ ls (bs.drop a)).1-fr)≤13:=by
    have:(BJ ls (bs.drop a)).1-fr<30:=by
     have:=hok.1
     rcases Qw hok (bs.drop a)with h | h <;> omega
    unfold BO;split <;> omega
   have hn:=Il bs (a+(BJ ls (bs.drop a)).2.1) (BO ((BJ ls (bs.drop a)).1-fr))
   have:2^BO ((BJ ls (bs.drop a)).1-fr)≤2^13:=Nat.pow_le_pow_right (by omega) hb
   exact ⟨by simp only;omega,by simp only;omega,by simp only;omega,by simp only;omega⟩
theorem Oo {ls:List Nat} {fr:Nat} {bs:List Bool} {a:Nat} (hok:Bi ls) (ha:a≤bs.length):a≤(CA ls fr bs a).2.1∧(CA ls fr bs a).2.1≤bs.length∧((CA ls fr bs a).2.2=0→a < (CA ls fr bs a).2.1):=by
 have hle:=Qv ls (bs.drop a)
 rw [z7]at hle
 have hpos:=fun h=>fc hok (bs:=bs.drop a) h
 unfold CA
 split
 ·exact ⟨by simp only;omega,by simp only;omega,fun h=>by simp only at h ⊢;have:=hpos h;omega⟩
 ·split
  ·exact ⟨by simp only;omega,by simp only;omega,fun h=>by cases h⟩
  ·rename_i h1 h2
   have:=hpos (by omega)
   exact ⟨by simp only;omega,by simp only;omega,fun _=>by simp only;omega⟩
theorem TV {r:Sy} (h:(DP r).2=true):(DP r).1.right∧0≤(DP r).1.byte∧(DP r).1.byte<256:=by
 unfold DP at*
 split at h
 ·rename_i hm
  split at h
  ·rename_i hr
   rw [if_pos hm,if_pos hr]
   unfold ID at*
   split at h
   ·rename_i x y hx hy
    split at h
    ·rename_i ht
     simp only [hx,hy,if_pos ht]
     exact ⟨ht,by simp,by simp⟩
    ·cases h
   ·cases h
  ·cases h
 ·split at h
  ·rename_i hm hr
   rw [if_neg hm,if_pos hr]
   exact ⟨by unfold AW.right;rw [if_pos rfl],hr.1,hr.2.1⟩
  ·cases h
theorem UK {la lb:List Nat} {bs:List Bool} {a:Nat} (oka:Bi la) (okb:Bi lb) (ha:a≤bs.length):
  a≤(Cy la lb bs a).2.1∧(Cy la lb bs a).2.1≤bs.length∧((Cy la lb bs a).2.2.1=false→a < (Cy la lb bs a).2.1∧(Cy la lb bs a).2.2.2=0∧(Cy la lb bs a).1.right∧0≤(Cy la lb bs a).1.byte∧(Cy la lb bs a).1.byte<256):=by
 obtain ⟨h1,h2,h3⟩:=Oo (fr:=257) oka ha
 obtain ⟨k1,k2,k3⟩:=Oo (fr:=0) okb h2
 unfold Cy
 split
 ·exact ⟨h1,h2,fun h=>by cases h⟩
 ·split
  ·split
   ·exact ⟨by simp only;omega,k2,fun h=>by cases h⟩
   ·split
    ·rename_i a1 a2 a3 a4
     exact ⟨by simp only;omega,k2,fun _=>⟨by simp only;have:=h3 (by omega);omega,rfl,TV a4⟩⟩
    ·exact ⟨by simp only;omega,k2,fun h=>by cases h⟩
  ·split
   ·rename_i a1 a2 a3
    exact ⟨h1,h2,fun _=>⟨h3 (by omega),rfl,TV a3⟩⟩
   ·exact ⟨h1,h2,fun h=>by cases h⟩
theorem AW.size_le {t:AW} (h:t.right):1≤t.size∧t.size≤258∧(t.size:Int)=max 1 t.len:=by
 unfold AW.right at h
 unfold AW.size
 split at h <;> refine ⟨by omega,by omega,by omega⟩
theorem TG (ls:List Nat) (bs:List Bool) (n:Nat):∀ (f a:Nat) (l:List Nat),a≤bs.length→(F1 ls bs n f a l).2.2=0→a≤(F1 ls bs n f a l).2.1∧(F1 ls bs n f a l).2.1≤bs.length
 | 0,_,_,_,h=>by cases h
 | f+1,a,l,ha,h=>by
  revert h
  rw [F1]
  split
  ·exact fun _=>⟨Nat.le_refl _,ha⟩
  ·split
   ·intro h;exact absurd h ‹_›
   ·split
    ·intro h;cases h
    ·split
     ·intro h;cases h
     ·split
      ·intro h;cases h
      ·intro h
       have:=TG ls bs n f _ _ (by omega) h
       omega
theorem Wi {bs:List Bool} {a:Nat} {ok:Bool} (h:(CS bs a ok).2.2=0) (ha:a≤bs.length):a≤(CS bs a ok).2.1∧(CS bs a ok).2.1≤bs.length:=by
 revert h
 unfold CS
 split
 ·intro h;exact absurd h ‹_›
 ·rename_i hh
  intro h
  have h85:a+85≤bs.length:=by
   unfold Fh at hh
   refine Classical.byContradiction fun hn=> ?_
   revert hh
   split
   ·simp
   ·split
    ·simp
    ·rw [if_pos (by omega)];simp
  have:=TG _ bs _ 321 (a+85) [] h85 h
  omega
theorem Yt {bs:List Bool} (h:(Df bs 0).1=0):(Df bs 0).2.2.2≤bs.length:=by
 revert h
 unfold Df
 obtain ⟨X,hX⟩:∃X,CS bs 0 (B0 bs 0)=X:=⟨_,rfl⟩
 have h1:=Wi (bs:=bs) (a:=0) (ok:=B0 bs 0)
 rw [hX]at h1 ⊢
 obtain ⟨Y,hY⟩:∃Y,CS bs X.2.1 (B0 bs X.2.1)=Y:=⟨_,rfl⟩
 have h2:=Wi (bs:=bs) (a:=X.2.1) (ok:=B0 bs X.2.1)
 rw [hY]at h2 ⊢
 split
 ·intro h;exact absurd h ‹_›
 ·split
  ·intro h;exact absurd h ‹_›
  ·split
   ·intro h;cases h
   ·split
    ·intro h;cases h
    ·intro _
     have g1:=h1 (by omega) (by omega)
     exact (h2 (by omega) g1.2).2
end Go.Bn
end

section
namespace Go.Bn
def Fo (l:List AW):Prop:=l.length≤65536∧∀t∈l,t.right
instance (l:List AW):Decidable (Fo l):=by unfold Fo;infer_instance
def Fw (l:List Nat) (i:Nat):List Nat:=l.set i (l.getD i 0+1)
theorem Ky (l:List Nat) (i:Nat):(Fw l i).length=l.length:=by simp [Fw]
theorem OW:∀ (l:List Nat) (i:Nat),(Fw l i).sum≤l.sum+1
 | [],i=>by simp [Fw]
 | x::l,0=>by simp [Fw];omega
 | x::l,i+1=>by
  have:=OW l i
  simp only [Fw,z1,List.getD_cons_succ,List.sum_cons]at this ⊢
  omega
theorem KN:∀ {l:List Nat} {x:Nat},x∈l→x≤l.sum
 | y::l,x,h=>by
  rw [List.sum_cons]
  rcases List.mem_cons.1 h with rfl | h
  ·omega
  ·have:=KN h;omega
def C2 (s:List Nat×List Nat×Nat) (y:Sy):List Nat×List Nat×Nat:=(Fw s.1 y.a.num.toNat,if y.m=true then Fw s.2.1 y.b.num.toNat else s.2.1,if y.m=true then s.2.2+1 else s.2.2)
def Ga:List Nat×List Nat×Nat:=((List.replicate 273 0).set 256 1,List.replicate 30 0,0)
def DO (ys:List Sy):List Nat×List Nat×Nat:=ys.foldl C2 Ga
theorem Zl (ys:List Sy) (y:Sy):DO (ys++[y])=C2 (DO ys) y:=by simp [DO,List.foldl_append]
theorem H7 (ys:List Sy):(DO ys).1.length=273∧(DO ys).2.1.length=30∧(DO ys).1.sum≤1+ys.length∧(DO ys).2.1.sum≤ys.length∧(DO ys).2.2≤ys.length:=by
 suffices h:∀ (ys:List Sy) (s:List Nat×List Nat×Nat),s.1.length=273→s.2.1.length=30→(ys.foldl C2 s).1.length=273∧(ys.foldl C2 s).2.1.length=30∧(ys.foldl C2 s).1.sum≤s.1.sum+ys.length∧(ys.foldl C2 s).2.1.sum≤s.2.1.sum+ys.length∧(ys.foldl C2 s).2.2≤s.2.2+ys.length by
  obtain ⟨h1,h2,h3,h4,h5⟩:=h ys Ga (by decide+kernel) (by decide+kernel)
  refine ⟨h1,h2,?_,?_,?_⟩
  ·rw [show Ga.1.sum=1 by decide+kernel]at h3;exact h3
  ·rw [show Ga.2.1.sum=0 by decide+kernel]at h4;unfold DO;omega
  ·rw [show Ga.2.2=0 by decide+kernel]at h5;unfold DO;omega
 intro ys
 induction ys with
 | nil=>intro s h1 h2;exact ⟨h1,h2,Nat.le_refl _,Nat.le_refl _,Nat.le_refl _⟩
 | cons y ys ih=>
  intro s h1 h2
  rw [List.foldl_cons]
  obtain ⟨g1,g2,g3,g4,g5⟩:=ih (C2 s y) (by simp only [C2];rw [Ky];exact h1) (by simp only [C2];split;rw [Ky];exact h2;exact h2)
  have a1:(C2 s y).1.sum≤s.1.sum+1:=OW s.1 y.a.num.toNat
  have a2:(C2 s y).2.1.sum≤s.2.1.sum+1:=by
   have:=OW s.2.1 y.b.num.toNat
   simp only [C2];split <;> omega
  have a3:(C2 s y).2.2≤s.2.2+1:=by simp only [C2];split <;> omega
  rw [ze]
  exact ⟨g1,g2,by omega,by omega,by omega⟩
def Hb (ys:List Sy):List Nat:=(DO ys).1
def FU (ys:List Sy):List Nat:=if (DO ys).2.2=0 then (DO ys).2.1.set 0 1 else (DO ys).2.1
theorem fD {t:AW} (h:t.right):Iw t=(BH t,true):=if_pos h
theorem fB {t:AW} (h:¬t.right):Iw t=(Sy.nil,false):=if_neg h
end Go.Bn
end

section
namespace Go.Bn
def Rk (key:Nat→Nat) (a b:Nat):Prop:=key a<key b∨(key a=key b∧a<b)
def Ie (a b:Nat):Int:=if a<b then -1 else if b<a then 1 else 0
theorem If {a b:Nat}:Ie a b<0↔a<b:=by unfold Ie;split <;> (try split) <;> omega
abbrev DD (key:Nat→Nat) (l:List Nat):Prop:=l.Pairwise (Rk key)
def Ge (key:Nat→Nat) (U V:List Nat):Prop:=DD key U∧DD key V∧∀u∈U,∀v∈V,key u=key v→u<v
def E5 (key:Nat→Nat) (U V W:List Nat):Prop:=W.Perm (U++V)∧DD key W
variable {key:Nat→Nat}
theorem Rk.le {a b:Nat} (h:Rk key a b):key a≤key b:=by rcases h with h | h <;> omega
theorem Rk.trans {a b c:Nat} (h:Rk key a b) (k:Rk key b c):Rk key a c:=by unfold Rk at*;omega
theorem ER {l:List Nat} {i:Nat} (h:i<l.length):l.getD i 0=l[i]:=by simp [List.getD,h]
theorem HH {l:List Nat} {i:Nat} (h:i<l.length):l.getD i 0∈l:=by rw [ER h];exact List.getElem_mem h
theorem DD.get {l:List Nat} (h:DD key l) {i j:Nat} (hij:i<j) (hj:j<l.length):Rk key (l.getD i 0) (l.getD j 0):=by
 rw [ER (by omega),ER hj]
 exact List.pairwise_iff_getElem.1 h i j (by omega) hj hij
theorem DD.get_le {l:List Nat} (h:DD key l) {i j:Nat} (hij:i≤j) (hj:j<l.length):key (l.getD i 0)≤key (l.getD j 0):=by
 rcases Nat.lt_or_eq_of_le hij with h1 | rfl
 ·exact (h.get h1 hj).le
 ·exact Nat.le_refl _
theorem UB {l:List Nat} {i x:Nat} (h:x∈l.take i):∃j,j<i∧j<l.length∧x=l.getD j 0:=by
 obtain ⟨j,hj,he⟩:=List.mem_take_iff_getElem.1 h
 exact ⟨j,by omega,by omega,by rw [ER (by omega)];exact he.symm⟩
theorem Pg {l:List Nat} {i x:Nat} (h:x∈l.drop i):∃j,i≤j∧j<l.length∧x=l.getD j 0:=by
 obtain ⟨j,hj,he⟩:=List.mem_drop_iff_getElem.1 h
 exact ⟨i+j,by omega,by omega,by rw [ER (by omega),←he]⟩
theorem DD.take {l:List Nat} (h:DD key l) (i:Nat):DD key (l.take i):=h.sublist (List.take_sublist _ _)
theorem DD.drop {l:List Nat} (h:DD key l) (i:Nat):DD key (l.drop i):=h.sublist (List.drop_sublist _ _)
theorem Ge.part {U V:List Nat} (h:Ge key U V) (i j:Nat):Ge key (U.take i) (V.take j)∧Ge key (U.drop i) (V.drop j):=
  ⟨⟨h.1.take i,h.2.1.take j,fun u hu v hv=>h.2.2 u (List.mem_of_mem_take hu) v (List.mem_of_mem_take hv)⟩,
   ⟨h.1.drop i,h.2.1.drop j,fun u hu v hv=>h.2.2 u (List.mem_of_mem_drop hu) v (List.mem_of_mem_drop hv)⟩⟩
theorem Pm {U V W1 W2:List Nat} (h:Ge key U V) {i j:Nat} (h1:i=0∨V.length≤j∨key (U.getD (i-1) 0)≤key (V.getD j 0)) (h2:U.length≤i∨j=0∨key (V.getD (j-1) 0)<key (U.getD i 0))
  (hi:i≤U.length) (hj:j≤V.length) (m1:E5 key (U.take i) (V.take j) W1) (m2:E5 key (U.drop i) (V.drop j) W2):E5 key U V (W1++W2):=by
 refine ⟨?_,?_⟩
 ·refine (m1.1.append m2.1).trans ?_
  have e1:U++V=(U.take i++U.drop i)++(V.take j++V.drop j):=by rw [List.take_append_drop,List.take_append_drop]
  rw [e1,z8,z8]
  refine List.Perm.append_left _ ?_
  rw [←z8,←z8]
  exact List.Perm.append_right _ List.perm_append_comm
 ·refine List.pairwise_append.2 ⟨m1.2,m2.2,fun a ha b hb=> ?_⟩
  rw [m1.1.mem_iff,List.mem_append]at ha
  rw [m2.1.mem_iff,List.mem_append]at hb
  rcases ha with ha | ha <;> rcases hb with hb | hb <;> obtain ⟨x,hx,hxl,rfl⟩:=UB ha <;> obtain ⟨y,hy,hyl,rfl⟩:=Pg hb
  ·exact h.1.get (by omega) hyl
  ·have k1:=h.1.get_le (i:=x) (j:=i-1) (by omega) (by omega)
   have k2:=h.2.1.get_le (i:=j) (j:=y) hy hyl
   have k3:key (U.getD (i-1) 0)≤key (V.getD j 0):=by
    rcases h1 with h1 | h1 | h1
    ·omega
    ·omega
    ·exact h1
   rcases Nat.lt_or_ge (key (U.getD x 0)) (key (V.getD y 0))with k4 | k4
   ·exact .inl k4
   ·exact .inr ⟨by omega,h.2.2 _ (HH hxl) _ (HH hyl) (by omega)⟩
  ·have k1:=h.2.1.get_le (i:=x) (j:=j-1) (by omega) (by omega)
   have k2:=h.1.get_le (i:=i) (j:=y) hy hyl
   have k3:key (V.getD (j-1) 0)<key (U.getD i 0):=by
    rcases h2 with h2 | h2 | h2
    ·omega
    ·omega
    ·exact h2
   exact .inl (by omega)
  ·exact h.2.1.get (by omega) hyl
theorem Pj {V:List Nat} (h:DD key V):E5 key [] V V:=⟨List.Perm.refl _,h⟩
theorem UH {U:List Nat} (h:DD key U):E5 key U [] U:=⟨by simp,h⟩
theorem bU {u:Nat} {V:List Nat} (h:Ge key [u] V) {i:Nat} (hi:i≤V.length) (h1:i=0∨key (V.getD (i-1) 0)<key u) (h2:V.length≤i∨key u≤key (V.getD i 0)):E5 key [u] V (V.take i++u::V.drop i):=by
 have m1:E5 key ([u].take 0) (V.take i) (V.take i):=Pj (h.2.1.take i)
 have m2:E5 key ([u].drop 0) (V.drop i) (u::V.drop i):=by
  refine ⟨List.Perm.refl _,List.pairwise_cons.2 ⟨fun b hb=> ?_,h.2.1.drop i⟩⟩
  obtain ⟨y,hy,hyl,rfl⟩:=Pg hb
  have k2:=h.2.1.get_le (i:=i) (j:=y) hy hyl
  have k3:key u≤key (V.getD i 0):=by
   rcases h2 with h2 | h2
   ·omega
   ·exact h2
  rcases Nat.lt_or_ge (key u) (key (V.getD y 0))with k4 | k4
  ·exact .inl k4
  ·exact .inr ⟨by omega,h.2.2 u (by simp) _ (HH hyl) (by omega)⟩
 refine Pm h (i:=0) (j:=i) (.inl rfl) ?_ (Nat.zero_le _) hi m1 m2
 rcases h1 with h1 | h1
 ·exact .inr (.inl h1)
 ·exact .inr (.inr h1)
theorem Pk {v:Nat} {U:List Nat} (h:Ge key U [v]) {i:Nat} (hi:i≤U.length) (h1:i=0∨key (U.getD (i-1) 0)≤key v) (h2:U.length≤i∨key v<key (U.getD i 0)):E5 key U [v] (U.take i++v::U.drop i):=by
 have m1:E5 key (U.take i) ([v].take 0) (U.take i):=⟨by simp,h.1.take i⟩
 have m2:E5 key (U.drop i) ([v].drop 0) (v::U.drop i):=by
  refine ⟨(List.perm_append_comm (l₁:=[v]) (l₂:=U.drop i)),List.pairwise_cons.2 ⟨fun b hb=> ?_,h.1.drop i⟩⟩
  obtain ⟨y,hy,hyl,rfl⟩:=Pg hb
  have k2:=h.1.get_le (i:=i) (j:=y) hy hyl
  have k3:key v<key (U.getD i 0):=by
   rcases h2 with h2 | h2
   ·omega
   ·exact h2
  exact .inl (by omega)
 refine Pm h (i:=i) (j:=0) ?_ (.inr (.inl rfl)) hi (Nat.zero_le _) m1 m2
 rcases h1 with h1 | h1
 ·exact .inl h1
 ·exact .inr (.inr h1)
theorem KJ {α:Type} (A C:List α) (x:α) {i:Nat} (hi:i=A.length):(A++x::C)[i]? =some x:=by subst hi;simp
theorem LK {α:Type} (A M C:List α) (x y:α) {i:Nat} (hi:i=A.length+1+M.length):(A++x::(M++y::C))[i]? =some y:=by
 subst hi
 rw [zh (by omega),show A.length+1+M.length-A.length=M.length+1 by omega,List.getElem?_cons_succ,zh (Nat.le_refl _),Nat.sub_self];rfl
theorem Qj {α:Type} (A C:List α) (x y:α) {i:Nat} (hi:i=A.length):(A++x::C).set i y=A++y::C:=by
 subst hi;rw [List.set_append_right _ _ (Nat.le_refl _),Nat.sub_self];rfl
theorem V6 {α:Type} (A M C:List α) (x y z:α) {i:Nat} (hi:i=A.length+1+M.length):(A++x::(M++y::C)).set i z=A++x::(M++z::C):=by
 have:=Qj (A++x::M) C y z (i:=i) (by simp;omega)
 simpa using this
theorem PD {X U R:List Nat} {i a:Nat} (ha:X.length=a) (hi:i<U.length):(X++(U++R))[a+i]? =some (U.getD i 0):=by
 subst ha
 rw [zh (by omega),Nat.add_sub_cancel_left,zi hi,ER hi];simp [hi]
theorem PF {X U V R:List Nat} {i a:Nat} (ha:X.length+U.length=a) (hi:i<V.length):(X++(U++(V++R)))[a+i]? =some (V.getD i 0):=by
 have:=PD (X:=X++U) (U:=V) (R:=R) (i:=i) (a:=a) (by simpa using ha) hi
 rwa [z8]at this
theorem Jz {l:List Nat} {i:Nat} (hi:i<l.length):l.take (i+1)=l.take i++[l.getD i 0]:=by rw [ER hi];exact List.take_succ_eq_append_getElem hi
theorem KD {l:List Nat} {i:Nat} (hi:i<l.length):l.drop i=l.getD i 0::l.drop (i+1):=by rw [ER hi];exact List.drop_eq_getElem_cons hi
def blk (B k:Nat) (l:List Nat):List Nat:=(l.drop (k*B)).take B
theorem K8 (B k:Nat) (l:List Nat):blk (2*B) k l=blk B (2*k) l++blk B (2*k+1) l:=by
 unfold blk
 rw [Nat.two_mul B,List.take_add,List.drop_drop,show k*(B+B)=2*k*B by rw [Nat.mul_add,Nat.mul_comm 2 k,Nat.mul_assoc,Nat.two_mul,Nat.mul_add],show 2*k*B+B=(2*k+1)*B by rw [Nat.add_mul,Nat.one_mul]]
theorem YP {B k:Nat} {X M Y:List Nat} (hX:X.length=k*B) (hM:M.length≤B) (hY:M.length=B∨Y=[]):blk B k (X++(M++Y))=M:=by
 unfold blk
 rw [←hX,List.drop_append_of_le_length (Nat.le_refl _),List.drop_length,z4]
 rcases hY with h | rfl
 ·rw [List.take_append_of_le_length (by omega),za (by omega)]
 ·rw [List.append_nil,za hM]
theorem YQ {B k k':Nat} {X M M' Y:List Nat} (hX:X.length=k*B) (hl:M'.length=M.length) (hM:M.length≤B) (hY:M.length=B∨Y=[]) (hk:k'≠k):blk B k' (X++(M'++Y))=blk B k' (X++(M++Y)):=by
 unfold blk
 rcases Nat.lt_or_ge k' k with h | h
 ·have h1:(k'+1)*B≤k*B:=Nat.mul_le_mul_right _ h
  rw [Nat.add_mul,Nat.one_mul]at h1
  rw [List.drop_append_of_le_length (by omega),List.drop_append_of_le_length (by omega),List.take_append_of_le_length (by rw [z7];omega),List.take_append_of_le_length (by rw [z7];omega)]
 ·have h1:(k+1)*B≤k'*B:=Nat.mul_le_mul_right _ (by omega)
  rw [Nat.add_mul,Nat.one_mul]at h1
  have e:∀Z:List Nat,Z.length=M.length→(X++(Z++Y)).drop (k'*B)=Y.drop (k'*B-X.length-M.length):=fun Z hZ=>by
   rcases hY with h2 | rfl
   ·rw [List.drop_append,List.drop_of_length_le (by omega),z4,List.drop_append,List.drop_of_length_le (by omega),z4,hZ]
   ·rw [List.append_nil,List.drop_of_length_le (by simp;omega),List.drop_nil]
  rw [e M' hl,e M rfl]
theorem Mj {B k:Nat} {l:List Nat} (h:l.length≤k*B):blk B k l=[]:=by unfold blk;rw [List.drop_of_length_le h,List.take_nil]
theorem Rw {B:Nat} {l:List Nat} (h:l.length≤B):blk B 0 l=l:=by unfold blk;rw [Nat.zero_mul,List.drop_zero,za h]
def Cq (key:Nat→Nat) (B:Nat) (l l0:List Nat) (k:Nat):Prop:=(blk B k l).Perm (blk B k l0)∧DD key (blk B k l)
theorem SR (l:List Nat) (a s:Nat):l=l.take a++((l.drop a).take s++l.drop (a+s)):=by
 rw [←List.drop_drop,List.take_append_drop,List.take_append_drop]
theorem YO {B k:Nat} {X M M' Y:List Nat} (hl:M'.length=M.length) (h:X.length+M.length≤k*B∨(k+1)*B≤X.length):blk B k (X++(M'++Y))=blk B k (X++(M++Y)):=by
 unfold blk
 rcases h with h | h
 ·have e:∀Z:List Nat,Z.length=M.length→(X++(Z++Y)).drop (k*B)=Y.drop (k*B-X.length-M.length):=fun Z hZ=>by
   rw [List.drop_append,List.drop_of_length_le (by omega),z4,List.drop_append,List.drop_of_length_le (by omega),z4,hZ]
  rw [e M' hl,e M rfl]
 ·rw [Nat.add_mul,Nat.one_mul]at h
  rw [List.drop_append_of_le_length (by omega),List.drop_append_of_le_length (by omega),List.take_append_of_le_length (by rw [z7];omega),List.take_append_of_le_length (by rw [z7];omega)]
theorem Pf {B k x:Nat} {l:List Nat} (h:x∈blk B k l):x∈l:=List.mem_of_mem_drop (List.mem_of_mem_take h)
theorem Og {B k:Nat} {l:List Nat}:(blk B k l).length=min B (l.length-k*B):=by unfold blk;rw [z6,z7]
theorem Cq.out {B k:Nat} {l l0:List Nat} (hl:l.length=l0.length) (h:l.length≤k*B):Cq key B l l0 k:=by
 unfold Cq
 rw [Mj h,Mj (by omega)]
 exact ⟨List.Perm.refl _,List.Pairwise.nil⟩
theorem Cq.put {B k:Nat} {X M M' Y l0:List Nat} (hX:X.length=k*B) (hM:M.length≤B) (hY:M.length=B∨Y=[]) (hp:M'.Perm (blk B k l0)) (hl:M'.length=M.length) (hs:DD key M'):Cq key B (X++(M'++Y)) l0 k:=by
 unfold Cq
 rw [YP hX (by omega) (hY.imp (fun h=>by omega) id)]
 exact ⟨hp,hs⟩
theorem Cq.keep {B k:Nat} {X M M' Y l0:List Nat} (hl:M'.length=M.length) (h:X.length+M.length≤k*B∨(k+1)*B≤X.length) (hk:Cq key B (X++(M++Y)) l0 k):Cq key B (X++(M'++Y)) l0 k:=by
 unfold Cq at*
 rwa [YO hl h]
theorem Cq.double {B k:Nat} {l l0:List Nat} (hl:l.length=l0.length) (h:l.length≤(2*k+1)*B) (h1:Cq key B l l0 (2*k)):Cq key (2*B) l l0 k:=by
 unfold Cq at*
 rw [K8,K8,Mj (k:=2*k+1) h,Mj (k:=2*k+1) (by omega),List.append_nil,List.append_nil]
 exact h1
theorem dV {B k:Nat} {l l0:List Nat} (hlt:l0.Pairwise (· < ·)) (h1:Cq key B l l0 (2*k)) (h2:Cq key B l l0 (2*k+1)):Ge key (blk B (2*k) l) (blk B (2*k+1) l):=by
 refine ⟨h1.2,h2.2,fun u hu v hv _=> ?_⟩
 rw [h1.1.mem_iff]at hu
 rw [h2.1.mem_iff]at hv
 have h3:(blk (2*B) k l0).Pairwise (· < ·):=hlt.sublist ((List.take_sublist _ _).trans (List.drop_sublist _ _))
 rw [K8]at h3
 exact (List.pairwise_append.1 h3).2.2 u hu v hv
theorem Vc:∀ {l m:List Nat},DD key l→DD key m→l.Perm m→l=m
 | [],m,_,_,hp=>hp.nil_eq
 | a::l,[],_,_,hp=>by have:=hp.length_eq;simp at this
 | a::l,b::m,hl,hm,hp=>by
  obtain ⟨h1,h2⟩:=List.pairwise_cons.1 hl
  obtain ⟨h3,h4⟩:=List.pairwise_cons.1 hm
  have hab:a=b:=by
   have ha:a∈b::m:=hp.mem_iff.1 (by simp)
   have hb:b∈a::l:=hp.mem_iff.2 (by simp)
   rcases List.mem_cons.1 ha with rfl | ha
   ·rfl
   ·rcases List.mem_cons.1 hb with rfl | hb
    ·rfl
    ·have k1:=h1 b hb
     have k2:=h3 a ha
     unfold Rk at k1 k2;omega
  subst hab
  rw [Vc h2 h4 (List.Perm.cons_inv hp)]
end Go.Bn
end

section
namespace Go.Bn
open Go Proofs
@[reducible] def DH (g n c:Nat) (l:List Nat):AE:=Bn.row 3 1 (.slice (some ⟨g,0,none⟩) n c) (l.map nV)
theorem St.natAt {B g n c i x:Nat} {l:List Nat} {F:List AE} {hb h0:AA} (st:St B hb h0 (DH g n c l::F)) (h:l[i]? =some x):Az h0 ⟨g,0+i,none⟩=some (nV x):=by
 obtain ⟨A,n',c',he,_,_,_,hrd⟩:=st.row 0 rfl
 cases he
 have hi:=(zc.1 h).1
 obtain ⟨b,o,he2,hc⟩:=hrd.at_ (by rw [z3];omega)
 cases he2
 exact hc i (nV x) (by rw [zr,h];rfl)
theorem St.natLen {B g n c:Nat} {l:List Nat} {F:List AE} {hb h0:AA} (st:St B hb h0 (DH g n c l::F)):l.length=n:=by
 obtain ⟨A,n',c',he,hl,_⟩:=st.row 0 rfl
 cases he
 simpa using hl
theorem Wa {A M C:List Nat} {p q i j:Nat} (hi:i=A.length) (hj:j=A.length+1+M.length):(((A++p::(M++q::C)).map nV).set i (nV q)).set j (nV p)=(A++q::(M++p::C)).map nV:=by
 rw [←List.map_set,←List.map_set,Qj _ _ _ _ hi,V6 _ _ _ _ _ _ hj]
theorem Wb {A M C:List Nat} {p q i j:Nat} (hi:i=A.length) (hj:j=A.length+1+M.length):(((A++p::(M++q::C)).map nV).set j (nV p)).set i (nV q)=(A++q::(M++p::C)).map nV:=by
 rw [←List.map_set,←List.map_set,V6 _ _ _ _ _ _ hj,Qj _ _ _ _ hi]
theorem Qr {B g n c a b s:Nat} {X P M Q Y:List Nat} {fn:Value} {F:List AE} {h0:AA} (st0:St B h0 h0 (DH g n c (X++(P++(M++(Q++Y))))::F)) (ha:X.length=a) (hb:X.length+P.length+M.length=b) (hp:P.length=s) (hq:Q.length=s) (hn:n≤1099511627776):
  AG Tryz.prog 330 [.slice (some ⟨g,0,none⟩) n c,nV a,nV b,nV s,fn] h0 fun _ h'=>St B h0 h' (DH g n c (X++(Q++(M++(P++Y))))::F):=by
 have hln:=st0.natLen
 simp only [z2]at hln
 refine Qb Tryz.func330 rfl fun _=>AH ?_
 refine BD (fun i=>s-i) (fun i=>[(0,.slice (some ⟨g,0,none⟩) n c),(1,nV a),(2,nV b),(3,nV s),(10,nV i)])
  (fun (i:Nat) hp=>St B h0 hp (DH g n c (X++((Q.take i++P.drop i)++(M++((P.take i++Q.drop i)++Y))))::F)∧i≤s)
  0 (CP rfl rfl rfl rfl rfl) ⟨by simpa using st0,by omega⟩ ?_
 rintro i hp ⟨st,hi⟩
 refine AO ?_
 refine AK rfl (fun h=> ?_) (fun h=> ?_)
 ·have hiP:i<P.length:=by omega
  have hiQ:i<Q.length:=by omega
  have e1:X++((Q.take i++P.drop i)++(M++((P.take i++Q.drop i)++Y)))=(X++Q.take i)++P.getD i 0::((P.drop (i+1)++(M++P.take i))++Q.getD i 0::(Q.drop (i+1)++Y)):=by
   rw [KD hiP,KD hiQ];simp
  have e2:X++((Q.take (i+1)++P.drop (i+1))++(M++((P.take (i+1)++Q.drop (i+1))++Y)))=(X++Q.take i)++Q.getD i 0::((P.drop (i+1)++(M++P.take i))++P.getD i 0::(Q.drop (i+1)++Y)):=by
   rw [Jz hiP,Jz hiQ];simp
  have hia:a+i=(X++Q.take i).length:=by rw [z2,z6];omega
  have hib:b+i=(X++Q.take i).length+1+(P.drop (i+1)++(M++P.take i)).length:=by simp only [z2,z6,z7];omega
  rw [e1]at st
  refine AF ?_
  refine El (Ck [(7,.pure)]) (by kernel_rfl) (by kernel_rfl) (B3 ?_)
  refine xl (st.natAt (LK _ _ _ _ _ hib)) rfl (AH ?_)
  refine xl (st.natAt (KJ _ _ _ hia)) rfl (AC ?_)
  refine BT (EL (i:=a+i) st 0 rfl rfl rfl (by simp only [z3,z2,ze,z6,z7];omega) rfl rfl) rfl rfl fun _ hp st=> ?_
  simp only [z0]at st
  refine AC ?_
  refine BT (EL (i:=b+i) st 0 rfl rfl rfl (by simp only [List.length_set,z3,z2,ze,z6,z7];omega) rfl rfl) rfl rfl fun _ hp st=> ?_
  simp only [z0]at st
  rw [Wa hia hib,←e2]at st
  refine AO ?_
  exact Ad (i+1) (CP rfl rfl rfl rfl rfl) ⟨st,by omega⟩ (by omega)
 ·refine AB ?_
  obtain rfl:i=s:=by omega
  rw [za (by omega),za (by omega),List.drop_of_length_le (by omega),List.drop_of_length_le (by omega),List.append_nil,List.append_nil]at st
  exact st
theorem dx {B g n c a m b:Nat} {X U V Y:List Nat} {fn:Value} {F:List AE} {h0:AA} (st0:St B h0 h0 (DH g n c (X++(U++(V++Y)))::F)) (ha:X.length=a) (hm:X.length+U.length=m) (hb:m+V.length=b) (hu:1≤U.length) (hv:1≤V.length) (hn:n≤1099511627776):
  AG Tryz.prog 329 [.slice (some ⟨g,0,none⟩) n c,nV a,nV m,nV b,fn] h0 fun _ h'=>St B h0 h' (DH g n c (X++(V++(U++Y)))::F):=by
 have hln:=st0.natLen
 simp only [z2]at hln
 refine Qb Tryz.func329 rfl fun _=>Bb ?_
 refine BD (fun s=>s.2.1.length+s.2.2.1.length) (fun s=>[(0,.slice (some ⟨g,0,none⟩) n c),(2,nV m),(4,fn),(10,nV s.2.1.length),(11,nV s.2.2.1.length)])
  (fun (s:List Nat×List Nat×List Nat×List Nat) hp=>St B h0 hp (DH g n c (s.1++(s.2.1++(s.2.2.1++s.2.2.2)))::F)∧s.1.length+s.2.1.length=m∧1≤s.2.1.length∧1≤s.2.2.1.length∧m+s.2.2.1.length≤n∧s.1++(s.2.2.1++(s.2.1++s.2.2.2))=X++(V++(U++Y)))
  (X,U,V,Y) (.cons rfl (.cons rfl (.cons rfl (.cons (by simp only;rw [show m-a=U.length by omega];rfl) (.cons (by simp only;rw [show b-m=V.length by omega];rfl) (.nil _)))))) ⟨st0,hm,hu,hv,by simp only;omega,rfl⟩ ?_
 rintro ⟨x,u,v,y⟩ hp ⟨st,hxm,hu1,hv1,hvn,hT⟩
 simp only at st hxm hu1 hv1 hvn hT ⊢
 refine AO ?_
 refine AK rfl (fun h=> ?_) (fun h=> ?_)
 ·refine AP ?_
  refine AK rfl (fun h=> ?_) (fun h=> ?_)
  ·refine Aj ?_
   refine xk (Qr (X:=x) (P:=u.take v.length) (M:=u.drop v.length) (Q:=v) (Y:=y) (a:=m-u.length) (b:=m) (s:=v.length) (by have h1:=st.here;rw [←z8 (u.take _),List.take_append_drop];exact h1) (by omega) (by rw [z6,z7];omega) (by rw [z6];omega) rfl (by omega)) rfl ?_
   rintro _ hp st2
   replace st:=st.trans st2
   refine AP ?_
   refine Ad (x++v,u.drop v.length,u.take v.length,y) (.cons rfl (.cons rfl (.cons rfl (.cons (by simp only [z7];rfl) (.cons (by simp only [z6];rw [Nat.min_eq_left (by omega)];rfl) (.nil _)))))) ⟨by simpa using st,?_,?_,?_,?_,?_⟩ ?_
   ·simp only [z2,z7];omega
   ·simp only [z7];omega
   ·simp only [z6];omega
   ·simp only [z6];omega
   ·simp only
    rw [←z8 (u.take _),List.take_append_drop,z8];exact hT
   ·simp only [z6,z7];omega
  ·refine B3 ?_
   refine xk (Qr (X:=x) (P:=u) (M:=v.take (v.length-u.length)) (Q:=v.drop (v.length-u.length)) (Y:=y) (a:=m-u.length) (b:=m+v.length-u.length) (s:=u.length) (by have h1:=st.here;rw [←z8 (v.take _),List.take_append_drop];exact h1) (by omega) (by rw [z6];omega) rfl (by rw [z7];omega) (by omega)) rfl ?_
   rintro _ hp st2
   replace st:=st.trans st2
   refine AP ?_
   refine Ad (x,v.drop (v.length-u.length),v.take (v.length-u.length),u++y) (.cons rfl (.cons rfl (.cons rfl (.cons (by simp only [z7];rw [show v.length - (v.length-u.length)=u.length by omega];rfl) (.cons (by simp only [z6];rw [Nat.min_eq_left (by omega)];rfl) (.nil _)))))) ⟨st,?_,?_,?_,?_,?_⟩ ?_
   ·simp only [z7];omega
   ·simp only [z7];omega
   ·simp only [z6];omega
   ·simp only [z6];omega
   ·simp only
    rw [←z8 (v.take _),List.take_append_drop];exact hT
   ·simp only [z6,z7];omega
 ·refine Aj ?_
  refine xk (Qr (X:=x) (P:=u) (M:=[]) (Q:=v) (Y:=y) (a:=m-u.length) (b:=m) (s:=u.length) st.here (by omega) (by simp;omega) rfl (by omega) (by omega)) rfl ?_
  rintro _ hp st2
  replace st:=st.trans st2
  refine AB ?_
  rw [←hT];exact st
def Hr (B:Nat) (h0:AA) (F:List AE) (k:Nat) (caps:Array Value) (key:Nat→Nat) (good:Nat→Prop):Prop:=
  EB Tryz.prog k=true∧∀ (r:AE) (h':AA),St B h0 h' (r::F)→∀x y,good x→good y→AG Tryz.prog k (nV x::nV y::caps.toList) h' fun v h''=>v= .int .i64 (Ie (key x) (key y))∧h'=h''
theorem Hr.here {B k:Nat} {h0 hp:AA} {r:AE} {F:List AE} {caps:Array Value} {key:Nat→Nat} {good:Nat→Prop} (h:Hr B h0 F k caps key good) (st:St B h0 hp (r::F)):Hr B hp F k caps key good:=
 ⟨h.1,fun r' h' s=>h.2 r' h' (st.trans s)⟩
theorem TR {B g n c a b k:Nat} {X M Y:List Nat} {caps:Array Value} {key:Nat→Nat} {good:Nat→Prop} {F:List AE} {h0:AA} (st0:St B h0 h0 (DH g n c (X++(M++Y))::F)) (hcmp:Hr B h0 F k caps key good)
  (ha:X.length=a) (hb:X.length+M.length=b) (hM:M.Pairwise (· < ·)) (hg:∀x∈M,good x) (hn:n≤1099511627776):
  AG Tryz.prog 324 [.slice (some ⟨g,0,none⟩) n c,nV a,nV b,.func (.func k) #[] caps] h0 fun _ h'=>∃M',M'.Perm M∧DD key M'∧St B h0 h' (DH g n c (X++(M'++Y))::F):=by
 have hln:=st0.natLen
 simp only [z2]at hln
 refine Gx Tryz.func324 rfl fun _=>AO ?_
 refine BD (fun s=>M.length-s.1) (fun s=>[(0,.slice (some ⟨g,0,none⟩) n c),(1,nV a),(2,nV b),(3,.func (.func k) #[] caps),(8,nV (a+s.1))])
  (fun (s:Nat×List Nat) hp=>1≤s.1∧s.2.Perm (M.take s.1)∧DD key s.2∧St B h0 hp (DH g n c (X++(s.2++(M.drop s.1++Y)))::F))
  (1,M.take 1) (CP rfl rfl rfl rfl rfl) ⟨Nat.le_refl _,List.Perm.refl _,?_,by simp only;rw [←z8 (M.take _),List.take_append_drop];exact st0⟩ ?_
 ·cases M with
  | nil=>simp
  | cons x M=>simp
 rintro ⟨i,S⟩ hp ⟨hi1,hS,hSs,st⟩
 simp only at hi1 hS hSs st ⊢
 refine AO ?_
 refine AK rfl (fun h=> ?_) (fun h=> ?_)
 ·refine Aj ?_
  have hiM:i<M.length:=by omega
  have hSl:S.length=i:=by rw [hS.length_eq,z6];omega
  have htk:=Jz hiM
  rw [KD hiM]at st
  have hgx:=hg _ (HH hiM)
  have hpre:Ge key S [M.getD i 0]:=by
   refine ⟨hSs,by simp,fun u hu v hv _=> ?_⟩
   obtain rfl:v=M.getD i 0:=by simpa using hv
   rw [hS.mem_iff]at hu
   obtain ⟨j,hj,hjl,rfl⟩:=UB hu
   rw [ER hjl,ER hiM]
   exact List.pairwise_iff_getElem.1 hM j i hjl hiM hj
  have hgS:∀p,p<S.length→good (S.getD p 0):=fun p hp=>hg _ (List.mem_of_mem_take (hS.mem_iff.1 (HH hp)))
  obtain ⟨x,hx⟩:∃x,M.getD i 0=x:=⟨_,rfl⟩
  rw [hx]at st hgx hpre htk
  refine BD (fun p=>p) (fun p=>[(0,.slice (some ⟨g,0,none⟩) n c),(1,nV a),(2,nV b),(3,.func (.func k) #[] caps),(8,nV (a+i)),(9,nV (a+p))])
   (fun (p:Nat) hp=>p≤S.length∧(S.length≤p∨key x<key (S.getD p 0))∧St B h0 hp (DH g n c (X++(S.take p++x::(S.drop p++(M.drop (i+1)++Y))))::F))
   S.length (.cons rfl (.cons rfl (.cons rfl (.cons rfl (.cons rfl (.cons (by rw [hSl];rfl) (.nil _))))))) ⟨Nat.le_refl _,.inl (Nat.le_refl _),by rw [za (Nat.le_refl _),List.drop_of_length_le (Nat.le_refl _)];exact st⟩ ?_
  clear st
  rintro p hp ⟨hpS,hpk,st⟩
  have hfin:(p=0∨key (S.getD (p-1) 0)≤key x)→1≤i+1∧(S.take p++x::S.drop p).Perm (M.take (i+1))∧DD key (S.take p++x::S.drop p)∧St B h0 hp (DH g n c (X++((S.take p++x::S.drop p)++(M.drop (i+1)++Y)))::F):=fun h1=>by
   obtain ⟨m1,m2⟩:=Pk hpre hpS h1 hpk
   refine ⟨by omega,m1.trans ?_,m2,by simpa using st⟩
   rw [htk];exact hS.append_right _
  refine AO ?_
  refine Am 21 rfl (fun h=> ?_) (fun h=> ?_)
  ·have hp1:p-1<S.length:=by omega
   have e1:X++(S.take p++x::(S.drop p++(M.drop (i+1)++Y)))=(X++S.take (p-1))++S.getD (p-1) 0::([]++x::(S.drop p++(M.drop (i+1)++Y))):=by
    have:=Jz hp1
    rw [show p-1+1=p by omega]at this
    rw [this];simp
   have e2:X++(S.take (p-1)++x::(S.drop (p-1)++(M.drop (i+1)++Y)))=(X++S.take (p-1))++x::([]++S.getD (p-1) 0::(S.drop p++(M.drop (i+1)++Y))):=by
    have:=KD hp1
    rw [show p-1+1=p by omega]at this
    rw [this];simp
   have hia:a+p-1=(X++S.take (p-1)).length:=by rw [z2,z6];omega
   have hib:a+p=(X++S.take (p-1)).length+1+([]:List Nat).length:=by rw [z2,z6,zk];omega
   rw [e1]at st
   refine AJ ?_
   refine xl (st.natAt (LK _ _ _ _ _ hib)) rfl (AJ ?_)
   refine xl (st.natAt (KJ _ _ _ hia)) rfl ?_
   refine xv (IJ rfl (hcmp.2 _ _ st x (S.getD (p-1) 0) hgx (hgS _ hp1)) rfl (hcmp.1)) ?_
   rintro _ _ ⟨rfl,rfl⟩
   refine AF ?_
   refine AK rfl (fun h=> ?_) (fun h=> ?_)
   ·refine AF ?_
    refine El (Ck [(4,.pure)]) (by kernel_rfl) (by kernel_rfl) (Aj ?_)
    refine xl (st.natAt (KJ _ _ _ hia)) rfl (AF ?_)
    refine xl (st.natAt (LK _ _ _ _ _ hib)) rfl (AC ?_)
    refine BT (EL (i:=a+p) st 0 rfl rfl rfl (by simp only [z3,z2,ze,z6,z7,zk];omega) rfl rfl) rfl rfl fun _ hp st=> ?_
    simp only [z0]at st
    refine AC ?_
    refine BT (EL (i:=a+p-1) st 0 rfl rfl rfl (by simp only [List.length_set,z3,z2,ze,z6,z7,zk];omega) rfl rfl) rfl rfl fun _ hp st=> ?_
    simp only [z0]at st
    rw [Wb hia hib,←e2]at st
    refine AO ?_
    exact Ad (p-1) (.cons rfl (.cons rfl (.cons rfl (.cons rfl (.cons rfl (.cons (by rw [show a+p-1=a+(p-1) by omega];rfl) (.nil _))))))) ⟨by omega,.inr (If.1 h),st⟩ (by omega)
   ·refine AO ?_
    exact Ad (i+1,S.take p++x::S.drop p) (CP rfl rfl rfl rfl rfl) (hfin (.inr (Nat.le_of_not_lt fun h2=>h (If.2 h2)))) (by simp only;omega)
  ·refine IU ?_
   exact Ad (i+1,S.take p++x::S.drop p) (CP rfl rfl rfl rfl rfl) (hfin (.inl (by omega))) (by simp only;omega)
 ·refine AB ?_
  rw [za (by omega)]at hS
  rw [List.drop_of_length_le (by omega)]at st
  exact ⟨S,hS,hSs,st⟩
end Go.Bn
end

section
namespace Go.Bn
open Go Proofs
def RP (B k:Nat) (F:List AE) (caps:Array Value) (key:Nat→Nat) (good:Nat→Prop) (N:Nat):Prop:=
  ∀ (g n c a m b:Nat) (X U V Y:List Nat) (h0:AA),St B h0 h0 (DH g n c (X++(U++(V++Y)))::F)→Hr B h0 F k caps key good→X.length=a→X.length+U.length=m→m+V.length=b→1≤U.length→1≤V.length→
    U.length+V.length≤N→Ge key U V→(∀x∈U,good x)→(∀x∈V,good x)→n≤1099511627776→
    AG Tryz.prog 325 [.slice (some ⟨g,0,none⟩) n c,nV a,nV m,nV b,.func (.func k) #[] caps] h0 fun _ h'=>∃W,E5 key U V W∧St B h0 h' (DH g n c (X++(W++Y))::F)
theorem fX {B k N:Nat} {F:List AE} {caps:Array Value} {key:Nat→Nat} {good:Nat→Prop} (ih:RP B k F caps key good N)
  {g n c a m b:Nat} {X U V Y:List Nat} {h0:AA} (st0:St B h0 h0 (DH g n c (X++(U++(V++Y)))::F)) (hcmp:Hr B h0 F k caps key good) (ha:X.length=a) (hm:X.length+U.length=m) (hb:m+V.length=b) (hu:1≤U.length) (hv:1≤V.length)
  (hN:U.length+V.length≤N+1) (hpre:Ge key U V) (hgU:∀x∈U,good x) (hgV:∀x∈V,good x) (hn:n≤1099511627776):
  AG Tryz.prog 325 [.slice (some ⟨g,0,none⟩) n c,nV a,nV m,nV b,.func (.func k) #[] caps] h0 fun _ h'=>∃W,E5 key U V W∧St B h0 h' (DH g n c (X++(W++Y))::F):=by
 have hln:=st0.natLen
 simp only [z2]at hln
 refine Qb Tryz.func325 rfl fun _=>AP ?_
 refine AK rfl (fun h=> ?_) (fun h=> ?_)
 ·obtain ⟨u,rfl⟩:∃u,U=[u]:=List.length_eq_one_iff.1 (by omega)
  have hul:[u].length=1:=rfl
  have hgu:=hgU u (by simp)
  refine By ?_
  refine BD (fun s=>s.2-s.1) (fun s=>[(0,.slice (some ⟨g,0,none⟩) n c),(1,nV a),(2,nV m),(3,nV b),(4,.func (.func k) #[] caps),(10,nV s.1),(11,nV s.2)])
   (fun (s:Nat×Nat) hp=>hp=h0∧m≤s.1∧s.1≤s.2∧s.2≤b∧(s.1=m∨key (V.getD (s.1-m-1) 0)<key u)∧(s.2=b∨key u≤key (V.getD (s.2-m) 0)))
   (m,b) (Fq rfl rfl rfl rfl rfl rfl rfl) ⟨rfl,Nat.le_refl _,by simp only;omega,Nat.le_refl _,.inl rfl,.inl rfl⟩ ?_
  rintro ⟨i,j⟩ hp ⟨rfl,hi1,hi2,hi3,hi4,hi5⟩
  simp only at hi1 hi2 hi3 hi4 hi5 ⊢
  refine AO ?_
  refine AK rfl (fun h=> ?_) (fun h=> ?_)
  ·refine AP ?_
   first | refine AD (EK 1 rfl rfl (by decide)) rfl rfl ?_ | refine AD (Ez 1 rfl rfl (by decide)) rfl rfl ?_
   first | refine AD (Bj rfl rfl (by simp only [AI];omega)) rfl rfl ?_ | refine AD (Dm rfl rfl) rfl rfl ?_
   refine AT (nV ((i+j)/2)) rfl ?_
   obtain ⟨q,hq⟩:∃q,(i+j)/2=q:=⟨_,rfl⟩
   rw [hq]
   have hgq:(X++([u]++(V++Y)))[q]? =some (V.getD (q-m) 0):=by
    have:=PF (X:=X) (U:=[u]) (V:=V) (R:=Y) (a:=m) (i:=q-m) hm (by omega)
    rwa [show m+(q-m)=q by omega]at this
   have hga:(X++([u]++(V++Y)))[a]? =some u:=KJ _ _ _ ha.symm
   refine AP ?_
   refine xl (st0.natAt hgq) rfl (AF ?_)
   refine xl (st0.natAt hga) rfl ?_
   refine xv (IJ rfl (hcmp.2 _ _ st0 (V.getD (q-m) 0) u (hgV _ (HH (by omega))) hgu) rfl (hcmp.1)) ?_
   rintro _ _ ⟨rfl,rfl⟩
   refine AB ?_
   refine AK rfl (fun h=> ?_) (fun h=> ?_)
   ·refine AL ?_
    rw [If]at h
    exact Ad (q+1,j) (Fq rfl rfl rfl rfl rfl rfl rfl) ⟨rfl,by simp only;omega,by simp only;omega,hi3,.inr (by rw [show q+1-m-1=q-m by omega];exact h),hi5⟩ (by simp only;omega)
   ·refine AH ?_
    rw [If]at h
    exact Ad (i,q) (Fq rfl rfl rfl rfl rfl rfl rfl) ⟨rfl,hi1,by simp only;omega,by simp only;omega,hi4,.inr (by simp only;omega)⟩ (by simp only;omega)
  ·refine AP ?_
   obtain rfl:i=j:=by omega
   have hmg:E5 key [u] V (V.take (i-m)++u::V.drop (i-m)):=bU hpre (by omega) (hi4.imp (fun h=>by omega) id) (hi5.imp (fun h=>by omega) id)
   refine BD (fun d=>i-m-d) (fun d=>[(0,.slice (some ⟨g,0,none⟩) n c),(10,nV i),(13,nV (a+d))])
    (fun (d:Nat) hp'=>d≤i-m∧St B hp hp' (DH g n c (X++(V.take d++u::(V.drop d++Y)))::F))
    0 (DJ rfl rfl rfl) ⟨Nat.zero_le _,by simpa using st0⟩ ?_
   rintro d hp2 ⟨hd,st⟩
   refine AP ?_
   refine AK rfl (fun h=> ?_) (fun h=> ?_)
   ·have hdV:d<V.length:=by omega
    have e1:X++(V.take d++u::(V.drop d++Y))=(X++V.take d)++u::([]++V.getD d 0::(V.drop (d+1)++Y)):=by rw [KD hdV];simp
    have e2:X++(V.take (d+1)++u::(V.drop (d+1)++Y))=(X++V.take d)++V.getD d 0::([]++u::(V.drop (d+1)++Y)):=by rw [Jz hdV];simp
    have hia:a+d=(X++V.take d).length:=by rw [z2,z6];omega
    have hib:a+d+1=(X++V.take d).length+1+([]:List Nat).length:=by rw [zk];omega
    rw [e1]at st
    refine AF ?_
    refine El (Ck [(4,.pure)]) (by kernel_rfl) (by kernel_rfl) (Aj ?_)
    refine xl (st.natAt (LK _ _ _ _ _ hib)) rfl (AF ?_)
    refine xl (st.natAt (KJ _ _ _ hia)) rfl (AC ?_)
    refine BT (EL (i:=a+d) st 0 rfl rfl rfl (by simp only [z3,z2,ze,z6,z7,zk];omega) rfl rfl) rfl rfl fun _ hp st=> ?_
    simp only [z0]at st
    refine AC ?_
    refine BT (EL (i:=a+d+1) st 0 rfl rfl rfl (by simp only [List.length_set,z3,z2,ze,z6,z7,zk];omega) rfl rfl) rfl rfl fun _ hp st=> ?_
    simp only [z0]at st
    rw [Wa hia hib,←e2]at st
    refine AO ?_
    exact Ad (d+1) (DJ rfl rfl rfl) ⟨by omega,st⟩ (by omega)
   ·refine AB ?_
    obtain rfl:d=i-m:=by omega
    exact ⟨_,hmg,by simpa using st⟩
 ·refine Aj ?_
  refine AK rfl (fun h=> ?_) (fun h=> ?_)
  ·obtain ⟨v,rfl⟩:∃v,V=[v]:=List.length_eq_one_iff.1 (by omega)
   have hvl:[v].length=1:=rfl
   have hgv:=hgV v (by simp)
   refine By ?_
   refine BD (fun s=>s.2-s.1) (fun s=>[(0,.slice (some ⟨g,0,none⟩) n c),(1,nV a),(2,nV m),(3,nV b),(4,.func (.func k) #[] caps),(14,nV s.1),(15,nV s.2)])
    (fun (s:Nat×Nat) hp=>hp=h0∧a≤s.1∧s.1≤s.2∧s.2≤m∧(s.1=a∨key (U.getD (s.1-a-1) 0)≤key v)∧(s.2=m∨key v<key (U.getD (s.2-a) 0)))
    (a,m) (Fq rfl rfl rfl rfl rfl rfl rfl) ⟨rfl,Nat.le_refl _,by simp only;omega,Nat.le_refl _,.inl rfl,.inl rfl⟩ ?_
   rintro ⟨i,j⟩ hp ⟨rfl,hi1,hi2,hi3,hi4,hi5⟩
   simp only at hi1 hi2 hi3 hi4 hi5 ⊢
   refine AO ?_
   refine AK rfl (fun h=> ?_) (fun h=> ?_)
   ·refine AP ?_
    first | refine AD (EK 1 rfl rfl (by decide)) rfl rfl ?_ | refine AD (Ez 1 rfl rfl (by decide)) rfl rfl ?_
    first | refine AD (Bj rfl rfl (by simp only [AI];omega)) rfl rfl ?_ | refine AD (Dm rfl rfl) rfl rfl ?_
    refine AT (nV ((i+j)/2)) rfl ?_
    obtain ⟨q,hq⟩:∃q,(i+j)/2=q:=⟨_,rfl⟩
    rw [hq]
    have hgq:(X++(U++([v]++Y)))[q]? =some (U.getD (q-a) 0):=by
     have:=PD (X:=X) (U:=U) (R:=[v]++Y) (a:=a) (i:=q-a) ha (by omega)
     rwa [show a+(q-a)=q by omega]at this
    have hga:(X++(U++([v]++Y)))[m]? =some v:=by
     have:=PF (X:=X) (U:=U) (V:=[v]) (R:=Y) (a:=m) (i:=0) hm (by omega)
     exact this
    refine AP ?_
    refine xl (st0.natAt hga) rfl (AF ?_)
    refine xl (st0.natAt hgq) rfl ?_
    refine xv (IJ rfl (hcmp.2 _ _ st0 v (U.getD (q-a) 0) hgv (hgU _ (HH (by omega)))) rfl (hcmp.1)) ?_
    rintro _ _ ⟨rfl,rfl⟩
    refine AF ?_
    refine AK rfl (fun h=> ?_) (fun h=> ?_)
    ·refine AL ?_
     rw [If]at h
     exact Ad (q+1,j) (Fq rfl rfl rfl rfl rfl rfl rfl) ⟨rfl,by simp only;omega,by simp only;omega,hi3,.inr (by rw [show q+1-a-1=q-a by omega];omega),hi5⟩ (by simp only;omega)
    ·refine AH ?_
     rw [If]at h
     exact Ad (i,q) (Fq rfl rfl rfl rfl rfl rfl rfl) ⟨rfl,hi1,by simp only;omega,by simp only;omega,hi4,.inr (by simp only;omega)⟩ (by simp only;omega)
   ·refine AP ?_
    obtain rfl:i=j:=by omega
    have hmg:E5 key U [v] (U.take (i-a)++v::U.drop (i-a)):=Pk hpre (by omega) (hi4.imp (fun h=>by omega) id) (hi5.imp (fun h=>by omega) id)
    refine BD (fun d=>d) (fun d=>[(0,.slice (some ⟨g,0,none⟩) n c),(14,nV i),(17,nV (a+d))])
     (fun (d:Nat) hp'=>i-a≤d∧d≤U.length∧St B hp hp' (DH g n c (X++(U.take d++v::(U.drop d++Y)))::F))
     U.length (.cons rfl (.cons rfl (.cons (by rw [show a+U.length=m by omega];rfl) (.nil _)))) ⟨by omega,Nat.le_refl _,by simpa using st0⟩ ?_
    rintro d hp2 ⟨hd,hdU,st⟩
    refine AO ?_
    refine AK rfl (fun h=> ?_) (fun h=> ?_)
    ·have hd1:d-1<U.length:=by omega
     have e1:X++(U.take d++v::(U.drop d++Y))=(X++U.take (d-1))++U.getD (d-1) 0::([]++v::(U.drop d++Y)):=by
      have:=Jz hd1
      rw [show d-1+1=d by omega]at this
      rw [this];simp
     have e2:X++(U.take (d-1)++v::(U.drop (d-1)++Y))=(X++U.take (d-1))++v::([]++U.getD (d-1) 0::(U.drop d++Y)):=by
      have:=KD hd1
      rw [show d-1+1=d by omega]at this
      rw [this];simp
     have hia:a+d-1=(X++U.take (d-1)).length:=by rw [z2,z6];omega
     have hib:a+d=(X++U.take (d-1)).length+1+([]:List Nat).length:=by rw [z2,z6,zk];omega
     rw [e1]at st
     refine AF ?_
     refine El (Ck [(4,.pure)]) (by kernel_rfl) (by kernel_rfl) (Aj ?_)
     refine xl (st.natAt (KJ _ _ _ hia)) rfl (AF ?_)
     refine xl (st.natAt (LK _ _ _ _ _ hib)) rfl (AC ?_)
     refine BT (EL (i:=a+d) st 0 rfl rfl rfl (by simp only [z3,z2,ze,z6,z7,zk];omega) rfl rfl) rfl rfl fun _ hp st=> ?_
     simp only [z0]at st
     refine AC ?_
     refine BT (EL (i:=a+d-1) st 0 rfl rfl rfl (by simp only [List.length_set,z3,z2,ze,z6,z7,zk];omega) rfl rfl) rfl rfl fun _ hp st=> ?_
     simp only [z0]at st
     rw [Wb hia hib,←e2]at st
     refine AO ?_
     exact Ad (d-1) (.cons rfl (.cons rfl (.cons (by rw [show a+d-1=a+(d-1) by omega];rfl) (.nil _)))) ⟨by omega,by omega,st⟩ (by omega)
    ·refine AB ?_
     obtain rfl:d=i-a:=by omega
     exact ⟨_,hmg,by simpa using st⟩
  ·refine AO ?_
   first | refine AD (EK 1 rfl rfl (by decide)) rfl rfl ?_ | refine AD (Ez 1 rfl rfl (by decide)) rfl rfl ?_
   first | refine AD (Bj rfl rfl (by simp only [AI];omega)) rfl rfl ?_ | refine AD (Dm rfl rfl) rfl rfl ?_
   refine AT (nV ((a+b)/2)) rfl ?_
   obtain ⟨mid,hmid⟩:∃mid,(a+b)/2=mid:=⟨_,rfl⟩
   rw [hmid]
   refine Cp ?_
   refine Ma (fun s=>[(0,.slice (some ⟨g,0,none⟩) n c),(1,nV a),(2,nV m),(3,nV b),(4,.func (.func k) #[] caps),(18,nV mid),(19,nV (mid+m)),(20,nV s.1),(21,nV s.2)])
    (fun (s:Nat×Nat) hp=>hp=h0∧a≤s.1∧s.1≤s.2∧s.2≤m∧mid+m≤b+s.1∧m+s.2≤mid+m∧(s.1=a∨mid+m=b+s.1)∧(s.2=m∨mid+m=m+s.2)) ?_ ?_
   ·refine AL ?_
    refine AK rfl (fun h=> ?_) (fun h=> ?_)
    ·refine Bu ?_
     exact C7 (mid+m-b,mid) (Vv rfl rfl rfl rfl rfl rfl rfl rfl rfl) ⟨rfl,by simp only;omega,by simp only;omega,by simp only;omega,by simp only;omega,by simp only;omega,by simp only;omega,by simp only;omega⟩
    ·refine Aj ?_
     exact C7 (a,m) (Vv rfl rfl rfl rfl rfl rfl rfl rfl rfl) ⟨rfl,Nat.le_refl _,by simp only;omega,Nat.le_refl _,by simp only;omega,by simp only;omega,.inl rfl,.inl rfl⟩
   rintro ⟨s0,r0⟩ hp ⟨rfl,hA,hB,hC,hD,hE,hF,hG⟩
   simp only at hA hB hC hD hE hF hG ⊢
   refine AP ?_
   refine BD (fun s=>s.2-s.1) (fun s=>[(0,.slice (some ⟨g,0,none⟩) n c),(1,nV a),(2,nV m),(3,nV b),(4,.func (.func k) #[] caps),(18,nV mid),(19,nV (mid+m)),(20,nV s.1),(21,nV s.2),(22,nV (mid+m-1))])
    (fun (s:Nat×Nat) hp'=>hp'=hp∧s0≤s.1∧s.1≤s.2∧s.2≤r0∧(s.1=s0∨key (U.getD (s.1-a-1) 0)≤key (V.getD (mid-s.1) 0))∧(s.2=r0∨key (V.getD (mid-s.2-1) 0)<key (U.getD (s.2-a) 0)))
    (s0,r0) (Qd rfl rfl rfl rfl rfl rfl rfl rfl rfl rfl) ⟨rfl,Nat.le_refl _,hB,Nat.le_refl _,.inl rfl,.inl rfl⟩ ?_
   rintro ⟨s,r⟩ hp2 ⟨rfl,hs1,hs2,hs3,hs4,hs5⟩
   simp only at hs1 hs2 hs3 hs4 hs5 ⊢
   refine AO ?_
   refine AK rfl (fun h=> ?_) (fun h=> ?_)
   ·refine AP ?_
    first | refine AD (EK 1 rfl rfl (by decide)) rfl rfl ?_ | refine AD (Ez 1 rfl rfl (by decide)) rfl rfl ?_
    first | refine AD (Bj rfl rfl (by simp only [AI];omega)) rfl rfl ?_ | refine AD (Dm rfl rfl) rfl rfl ?_
    refine AT (nV ((s+r)/2)) rfl ?_
    obtain ⟨q,hq⟩:∃q,(s+r)/2=q:=⟨_,rfl⟩
    rw [hq]
    have hgq:(X++(U++(V++Y)))[q]? =some (U.getD (q-a) 0):=by
     have:=PD (X:=X) (U:=U) (R:=V++Y) (a:=a) (i:=q-a) ha (by omega)
     rwa [show a+(q-a)=q by omega]at this
    have hgp:(X++(U++(V++Y)))[mid+m-1-q]? =some (V.getD (mid-q-1) 0):=by
     have:=PF (X:=X) (U:=U) (V:=V) (R:=Y) (a:=m) (i:=mid-q-1) hm (by omega)
     rwa [show m+(mid-q-1)=mid+m-1-q by omega]at this
    refine BP ?_
    refine xl (st0.natAt hgp) rfl (AF ?_)
    refine xl (st0.natAt hgq) rfl ?_
    refine xv (IJ rfl (hcmp.2 _ _ st0 (V.getD (mid-q-1) 0) (U.getD (q-a) 0) (hgV _ (HH (by omega))) (hgU _ (HH (by omega)))) rfl (hcmp.1)) ?_
    rintro _ _ ⟨rfl,rfl⟩
    refine AF ?_
    refine AK rfl (fun h=> ?_) (fun h=> ?_)
    ·refine AL ?_
     rw [If]at h
     exact Ad (q+1,r) (Qd rfl rfl rfl rfl rfl rfl rfl rfl rfl rfl) ⟨rfl,by simp only;omega,by simp only;omega,hs3,.inr (by rw [show q+1-a-1=q-a by omega,show mid - (q+1)=mid-q-1 by omega];omega),hs5⟩ (by simp only;omega)
    ·refine AH ?_
     rw [If]at h
     exact Ad (s,q) (Qd rfl rfl rfl rfl rfl rfl rfl rfl rfl rfl) ⟨rfl,hs1,by simp only;omega,by simp only;omega,hs4,.inr (by simp only;omega)⟩ (by simp only;omega)
   ·refine AB ?_
    obtain rfl:s=r:=by omega
    have hi:s-a≤U.length:=by omega
    have hj:mid-s≤V.length:=by omega
    have hc1:s-a=0∨V.length≤mid-s∨key (U.getD (s-a-1) 0)≤key (V.getD (mid-s) 0):=by
     rcases hs4 with h1 | h1
     ·omega
     ·exact .inr (.inr h1)
    have hc2:U.length≤s-a∨mid-s=0∨key (V.getD (mid-s-1) 0)<key (U.getD (s-a) 0):=by
     rcases hs5 with h1 | h1
     ·omega
     ·exact .inr (.inr h1)
    have hsplit:=fun W1 W2 m1 m2=>Pm (W1:=W1) (W2:=W2) hpre hc1 hc2 hi hj m1 m2
    obtain ⟨hq1,hq2⟩:=hpre.part (s-a) (mid-s)
    have e0:X++(U++(V++Y))=X++(U.take (s-a)++(U.drop (s-a)++(V.take (mid-s)++(V.drop (mid-s)++Y)))):=by
     rw [←z8 (V.take _),List.take_append_drop,←z8 (U.take _),List.take_append_drop]
    obtain ⟨U1,hU1⟩:∃U1,U.take (s-a)=U1:=⟨_,rfl⟩
    obtain ⟨U2,hU2⟩:∃U2,U.drop (s-a)=U2:=⟨_,rfl⟩
    obtain ⟨V1,hV1⟩:∃V1,V.take (mid-s)=V1:=⟨_,rfl⟩
    obtain ⟨V2,hV2⟩:∃V2,V.drop (mid-s)=V2:=⟨_,rfl⟩
    have hlU1:U1.length=s-a:=by rw [←hU1,z6];omega
    have hlU2:U2.length=m-s:=by rw [←hU2,z7];omega
    have hlV1:V1.length=mid-s:=by rw [←hV1,z6];omega
    have hlV2:V2.length=b+s - (mid+m):=by rw [←hV2,z7];omega
    have hgU1:∀x∈U1,good x:=fun x hx=>hgU x (List.mem_of_mem_take (by rw [hU1];exact hx))
    have hgU2:∀x∈U2,good x:=fun x hx=>hgU x (List.mem_of_mem_drop (by rw [hU2];exact hx))
    have hgV1:∀x∈V1,good x:=fun x hx=>hgV x (List.mem_of_mem_take (by rw [hV1];exact hx))
    have hgV2:∀x∈V2,good x:=fun x hx=>hgV x (List.mem_of_mem_drop (by rw [hV2];exact hx))
    rw [hU1,hU2,hV1,hV2]at e0
    rw [hU1,hV1]at hq1
    rw [hU2,hV2]at hq2
    rw [hU1,hU2,hV1,hV2]at hsplit
    rw [e0]at st0
    refine AO ?_
    refine Ma (fun (_:Unit)=>[(0,.slice (some ⟨g,0,none⟩) n c),(1,nV a),(2,nV m),(3,nV b),(4,.func (.func k) #[] caps),(18,nV mid),(20,nV s),(24,nV (mid+m-s))])
     (fun (_:Unit) hp'=>St B hp2 hp' (DH g n c (X++(U1++(V1++(U2++(V2++Y)))))::F)) ?_ ?_
    ·refine AL ?_
     refine Am 181 rfl (fun h=> ?_) (fun h=> ?_)
     ·refine AH ?_
      refine AK rfl (fun h=> ?_) (fun h=> ?_)
      ·refine AL ?_
       refine xk (dx (X:=X++U1) (U:=U2) (V:=V1) (Y:=V2++Y) (by rw [z8];exact st0) (by rw [z2];omega) (by rw [z2];omega) (by omega) (by omega) (by omega) hn) rfl ?_
       rintro _ hp3 st
       rw [z8]at st
       refine AC ?_
       exact C7 () (FF rfl rfl rfl rfl rfl rfl rfl rfl) st
      ·refine AC ?_
       refine C7 () (FF rfl rfl rfl rfl rfl rfl rfl rfl) ?_
       obtain rfl:V1=[]:=List.eq_nil_of_length_eq_zero (by omega)
       exact st0
     ·refine AO ?_
      refine C7 () (FF rfl rfl rfl rfl rfl rfl rfl rfl) ?_
      obtain rfl:U2=[]:=List.eq_nil_of_length_eq_zero (by omega)
      exact st0
    rintro ⟨⟩ hp3 st
    refine AC ?_
    refine Ma (fun (_:List Nat)=>[(0,.slice (some ⟨g,0,none⟩) n c),(1,nV a),(2,nV m),(3,nV b),(4,.func (.func k) #[] caps),(18,nV mid),(20,nV s),(24,nV (mid+m-s))])
     (fun W1 hp'=>E5 key U1 V1 W1∧St B hp2 hp' (DH g n c (X++(W1++(U2++(V2++Y))))::F)) ?_ ?_
    ·refine AL ?_
     refine Am 195 rfl (fun h=> ?_) (fun h=> ?_)
     ·refine AH ?_
      refine AK rfl (fun h=> ?_) (fun h=> ?_)
      ·refine AL ?_
       refine xk (ih g n c a s mid X U1 V1 (U2++(V2++Y)) _ st.here (hcmp.here st) ha (by omega) (by omega) (by omega) (by omega) (by omega) hq1 hgU1 hgV1 hn) rfl ?_
       rintro _ hp4 ⟨W1,hW1,st3⟩
       replace st:=st.trans st3
       refine AC ?_
       exact C7 W1 (FF rfl rfl rfl rfl rfl rfl rfl rfl) ⟨hW1,st⟩
      ·refine AC ?_
       refine C7 U1 (FF rfl rfl rfl rfl rfl rfl rfl rfl) ?_
       obtain rfl:V1=[]:=List.eq_nil_of_length_eq_zero (by omega)
       exact ⟨UH hq1.1,st⟩
     ·refine AO ?_
      refine C7 V1 (FF rfl rfl rfl rfl rfl rfl rfl rfl) ?_
      obtain rfl:U1=[]:=List.eq_nil_of_length_eq_zero (by omega)
      exact ⟨Pj hq1.2.1,st⟩
    rintro W1 hp4 ⟨hW1,st⟩
    have hlW1:W1.length=mid-a:=by rw [hW1.1.length_eq,z2];omega
    refine AL ?_
    refine Am 209 rfl (fun h=> ?_) (fun h=> ?_)
    ·refine AH ?_
     refine AK rfl (fun h=> ?_) (fun h=> ?_)
     ·refine AL ?_
      refine xk (ih g n c mid (mid+m-s) b (X++W1) U2 V2 Y _ (by rw [z8];exact st.here) (hcmp.here st) (by rw [z2];omega) (by rw [z2];omega) (by omega) (by omega) (by omega) (by omega) hq2 hgU2 hgV2 hn) rfl ?_
      rintro _ hp5 ⟨W2,hW2,st4⟩
      rw [z8]at st4
      replace st:=st.trans st4
      refine AB ?_
      exact ⟨_,hsplit W1 W2 hW1 hW2,by simpa using st⟩
     ·refine AB ?_
      obtain rfl:V2=[]:=List.eq_nil_of_length_eq_zero (by omega)
      exact ⟨_,hsplit W1 U2 hW1 (UH hq2.1),by simpa using st⟩
    ·refine AP ?_
     obtain rfl:U2=[]:=List.eq_nil_of_length_eq_zero (by omega)
     exact ⟨_,hsplit W1 V2 hW1 (Pj hq2.2.1),by simpa using st⟩
theorem Qt {B k:Nat} {F:List AE} {caps:Array Value} {key:Nat→Nat} {good:Nat→Prop}:∀N,RP B k F caps key good N
 | 0=>fun g n c a m b X U V Y h0 _ _ _ _ _ h1 h2 h3=>by omega
 | N+1=>fun g n c a m b X U V Y h0 h1 h2 h3 h4 h5 h6 h7 h8 h9 h10 h11 h12=>fX (Qt N) h1 h2 h3 h4 h5 h6 h7 h8 h9 h10 h11 h12
end Go.Bn
end

section
namespace Go.Bn
open Go Proofs
theorem fL {B g n c k:Nat} {l0:List Nat} {caps:Array Value} {key:Nat→Nat} {good:Nat→Prop} {F:List AE} {h0:AA} (st0:St B h0 h0 (DH g n c l0::F)) (hcmp:Hr B h0 F k caps key good)
  (hlt:l0.Pairwise (· < ·)) (hg:∀x∈l0,good x) (hn:n≤1099511627776):
  AG Tryz.prog 317 [.slice (some ⟨g,0,none⟩) n c,nV n,.func (.func k) #[] caps] h0 fun _ h'=>∃l,l.Perm l0∧DD key l∧St B h0 h' (DH g n c l::F):=by
 have hln:=st0.natLen
 refine Bg Tryz.func317 rfl fun _=>By ?_
 refine BD (fun s=>n+20-20*s.1) (fun s=>[(0,.slice (some ⟨g,0,none⟩) n c),(1,nV n),(2,.func (.func k) #[] caps),(6,nV 20),(7,nV (s.1*20)),(8,nV (s.1*20+20))])
  (fun (s:Nat×List Nat) hp=>(∀k',k'<s.1→Cq key 20 s.2 l0 k')∧(∀k',s.1≤k'→blk 20 k' s.2=blk 20 k' l0)∧s.1*20≤n∧St B h0 hp (DH g n c s.2::F))
  (0,l0) (CL rfl rfl rfl rfl rfl rfl) ⟨fun k' h=>by simp only at h;omega,fun _ _=>rfl,by simp only;omega,st0⟩ ?_
 rintro ⟨i,l⟩ hp ⟨hdone,hrest,hin,st⟩
 simp only at hdone hrest hin st ⊢
 have hll:=st.natLen
 have hgb:∀x∈blk 20 i l,good x:=fun x hx=>by
  rw [hrest i (Nat.le_refl _)]at hx;exact hg x (Pf hx)
 have hltb:(blk 20 i l).Pairwise (· < ·):=by
  rw [hrest i (Nat.le_refl _)];exact hlt.sublist ((List.take_sublist _ _).trans (List.drop_sublist _ _))
 have hbl:=Og (B:=20) (k:=i) (l:=l)
 have e:=SR l (i*20) 20
 have e2:(l.drop (i*20)).take 20=blk 20 i l:=rfl
 rw [e2]at e
 have hXl:(l.take (i*20)).length=i*20:=by rw [z6];omega
 have hYl:(blk 20 i l).length=20∨l.drop (i*20+20)=[]:=by
  rcases Nat.lt_or_ge n (i*20+20)with h | h
  ·right;exact List.drop_of_length_le (by omega)
  ·left;omega
 have hstep:∀M',M'.Perm (blk 20 i l)→DD key M'→(∀k',k'<i+1→Cq key 20 (l.take (i*20)++(M'++l.drop (i*20+20))) l0 k')∧(∀k',i+1≤k'→blk 20 k' (l.take (i*20)++(M'++l.drop (i*20+20)))=blk 20 k' l0):=fun M' hp hs=>by
  refine ⟨fun k' hk=> ?_,fun k' hk=> ?_⟩
  ·rcases Nat.lt_or_ge k' i with h | h
   ·have:=hdone k' h
    rw [e]at this
    refine this.keep hp.length_eq (.inr ?_)
    rw [hXl];exact Nat.mul_le_mul_right _ h
   ·obtain rfl:k'=i:=by omega
    refine Cq.put hXl (by omega) hYl ?_ hp.length_eq hs
    rw [←hrest k' (Nat.le_refl _)];exact hp
  ·have h2:=hrest k' (by omega)
   rw [e]at h2
   rw [YQ hXl hp.length_eq (by omega) hYl (by omega),h2]
 obtain ⟨X,hX⟩:∃X,l.take (i*20)=X:=⟨_,rfl⟩
 obtain ⟨M,hM⟩:∃M,blk 20 i l=M:=⟨_,rfl⟩
 obtain ⟨Y,hY⟩:∃Y,l.drop (i*20+20)=Y:=⟨_,rfl⟩
 rw [hX,hM,hY]at e
 rw [hX]at hXl
 rw [hM]at hgb hltb hbl
 rw [hM,hY]at hYl
 rw [hX,hM,hY]at hstep
 rw [e]at st
 refine AO ?_
 refine AK rfl (fun h=> ?_) (fun h=> ?_)
 ·refine AP ?_
  refine xk (TR st.here (hcmp.here st) hXl (b:=i*20+20) (by omega) hltb hgb hn) rfl ?_
  rintro _ hp2 ⟨M',hp',hs',st2⟩
  replace st:=st.trans st2
  refine B3 ?_
  exact Ad (i+1,X++(M'++Y)) (.cons rfl (.cons rfl (.cons rfl (.cons rfl (.cons (by rw [Nat.add_mul];rfl) (.cons (by rw [Nat.add_mul];rfl) (.nil _))))))) ⟨(hstep M' hp' hs').1,(hstep M' hp' hs').2,by simp only;omega,st⟩ (by simp only;omega)
 ·refine AO ?_
  refine xk (TR st.here (hcmp.here st) hXl (b:=n) (by have:=hYl;rw [e]at hll;simp only [z2]at hll;rcases hYl with h1 | rfl;omega;simp at hll;omega) hltb hgb hn) rfl ?_
  rintro _ hp2 ⟨M',hp',hs',st2⟩
  replace st:=st.trans st2
  refine AB ?_
  have hfirst:∀k',Cq key 20 (X++(M'++Y)) l0 k':=fun k'=>by
   rcases Nat.lt_or_ge k' (i+1)with h1 | h1
   ·exact (hstep M' hp' hs').1 k' h1
   ·have h2:(i+1)*20≤k'*20:=Nat.mul_le_mul_right _ h1
    have h3:=st.natLen
    exact Cq.out (by omega) (by omega)
  generalize X++(M'++Y)=l1 at st hfirst
  refine BD (fun s=>n-s.1) (fun s=>[(0,.slice (some ⟨g,0,none⟩) n c),(1,nV n),(2,.func (.func k) #[] caps),(6,nV s.1)])
   (fun (s:Nat×List Nat) hp=>1≤s.1∧s.1≤4398046511104∧(∀k',Cq key s.1 s.2 l0 k')∧St B h0 hp (DH g n c s.2::F))
   (20,l1) (Bt rfl rfl rfl rfl) ⟨by simp only;omega,by simp only;omega,hfirst,st⟩ ?_
  clear st hfirst hstep hYl hbl hltb hgb hXl e e2 hdone hrest
  rintro ⟨Z,l1⟩ hp3 ⟨hZ1,hZ2,hall,st⟩
  simp only at hZ1 hZ2 hall st ⊢
  refine AO ?_
  refine AK rfl (fun h=> ?_) (fun h=> ?_)
  ·refine AH ?_
   first | refine AD (D0 (m:=2) rfl rfl (by simp only [AI];omega)) rfl rfl ?_ | refine AD (F8 rfl rfl (by simp only [AI];omega)) rfl rfl ?_ | refine AD (F7 rfl rfl) rfl rfl ?_
   refine AH ?_
   have hD0:2*Z=0+2*Z:=by omega
   refine BD (fun s=>n+2*Z-s.1*(2*Z)) (fun s=>[(0,.slice (some ⟨g,0,none⟩) n c),(1,nV n),(2,.func (.func k) #[] caps),(6,nV Z),(7,nV (s.1*(2*Z))),(8,nV (s.1*(2*Z)+2*Z))])
    (fun (s:Nat×List Nat) hp=>(∀k',k'<s.1→Cq key (2*Z) s.2 l0 k')∧(∀k',2*s.1≤k'→Cq key Z s.2 l0 k')∧s.1*(2*Z)≤n∧St B h0 hp (DH g n c s.2::F))
    (0,l1) (.cons rfl (.cons rfl (.cons rfl (.cons rfl (.cons (by rw [Nat.zero_mul];rfl) (.cons (by simp only [Nat.zero_mul,Nat.zero_add];rfl) (.nil _))))))) ⟨fun k' h=>by simp only at h;omega,fun k' _=>hall k',by simp only;omega,st⟩ ?_
   clear st
   rintro ⟨i,l⟩ hp4 ⟨hdone,hrest,hin,st⟩
   simp only at hdone hrest hin st ⊢
   have hll:=st.natLen
   have e1:2*i*Z=i*(2*Z):=by rw [Nat.mul_comm 2 i,Nat.mul_assoc]
   have e2:(2*i+1)*Z=i*(2*Z)+Z:=by rw [Nat.add_mul,Nat.one_mul,e1]
   have e3:(i+1)*(2*Z)=i*(2*Z)+2*Z:=by rw [Nat.add_mul,Nat.one_mul]
   have e4:(2*i+2)*Z=i*(2*Z)+2*Z:=by rw [Nat.add_mul,e1]
   have hbU:=Og (B:=Z) (k:=2*i) (l:=l)
   have hbV:=Og (B:=Z) (k:=2*i+1) (l:=l)
   have hU:=hrest (2*i) (Nat.le_refl _)
   have hV:=hrest (2*i+1) (by omega)
   have hpre:=dV (key:=key) hlt hU hV
   have hgU:∀x∈blk Z (2*i) l,good x:=fun x hx=>hg x (Pf (hU.1.mem_iff.1 hx))
   have hgV:∀x∈blk Z (2*i+1) l,good x:=fun x hx=>hg x (Pf (hV.1.mem_iff.1 hx))
   have e:=SR l (i*(2*Z)) (2*Z)
   have e5:(l.drop (i*(2*Z))).take (2*Z)=blk Z (2*i) l++blk Z (2*i+1) l:=K8 Z i l
   rw [e5]at e
   have hXl:(l.take (i*(2*Z))).length=i*(2*Z):=by rw [z6];omega
   have hYl:(blk Z (2*i) l++blk Z (2*i+1) l).length=2*Z∨l.drop (i*(2*Z)+2*Z)=[]:=by
    rcases Nat.lt_or_ge n (i*(2*Z)+2*Z)with h | h
    ·right;exact List.drop_of_length_le (by omega)
    ·left;rw [z2];omega
   have hUV:(blk Z (2*i) l++blk Z (2*i+1) l).Perm (blk (2*Z) i l0):=by rw [K8];exact hU.1.append hV.1
   obtain ⟨X,hX⟩:∃X,l.take (i*(2*Z))=X:=⟨_,rfl⟩
   obtain ⟨U,hUe⟩:∃U,blk Z (2*i) l=U:=⟨_,rfl⟩
   obtain ⟨V,hVe⟩:∃V,blk Z (2*i+1) l=V:=⟨_,rfl⟩
   obtain ⟨Y,hY⟩:∃Y,l.drop (i*(2*Z)+2*Z)=Y:=⟨_,rfl⟩
   rw [hX,hUe,hVe,hY]at e
   rw [hX]at hXl
   rw [hUe]at hbU hgU
   rw [hVe]at hbV hgV
   rw [hUe,hVe]at hpre hUV
   rw [hUe,hVe,hY]at hYl
   have hstep:∀W,E5 key U V W→(∀k',k'<i+1→Cq key (2*Z) (X++(W++Y)) l0 k')∧(∀k',2*(i+1)≤k'→Cq key Z (X++(W++Y)) l0 k'):=fun W hW=>by
    refine ⟨fun k' hk=> ?_,fun k' hk=> ?_⟩
    ·rcases Nat.lt_or_ge k' i with h | h
     ·have:=hdone k' h
      rw [e]at this
      refine this.keep hW.1.length_eq (.inr ?_)
      rw [hXl];exact Nat.mul_le_mul_right _ h
     ·obtain rfl:k'=i:=by omega
      exact Cq.put hXl (by rw [z2];omega) hYl (hW.1.trans hUV) hW.1.length_eq hW.2
    ·have h2:=hrest k' (by omega)
     rw [e]at h2
     refine h2.keep hW.1.length_eq (.inl ?_)
     have h3:(2*i+2)*Z≤k'*Z:=Nat.mul_le_mul_right _ (by omega)
     rw [hXl,z2];omega
   have st1:St B h0 hp4 (DH g n c (X++(U++(V++Y)))::F):=by rw [←z8 U,←e];exact st
   refine AO ?_
   refine AK rfl (fun h=> ?_) (fun h=> ?_)
   ·refine Bu ?_
    refine xk (Qt _ g n c _ (i*(2*Z)+Z) _ X U V Y _ st1.here (hcmp.here st1) hXl (by omega) (by omega) (by omega) (by omega) (Nat.le_refl _) hpre hgU hgV hn) rfl ?_
    rintro _ hp5 ⟨W,hW,st2⟩
    replace st:=st1.trans st2
    refine Aj ?_
    first | refine AD (D0 (m:=2) rfl rfl (by simp only [AI];omega)) rfl rfl ?_ | refine AD (F8 rfl rfl (by simp only [AI];omega)) rfl rfl ?_ | refine AD (F7 rfl rfl) rfl rfl ?_
    refine AJ ?_
    exact Ad (i+1,X++(W++Y)) (.cons rfl (.cons rfl (.cons rfl (.cons rfl (.cons (by simp only;rw [e3];rfl) (.cons (by simp only;rw [e3];rfl) (.nil _))))))) ⟨(hstep W hW).1,(hstep W hW).2,by simp only;omega,st⟩ (by simp only;omega)
   ·refine Cp ?_
    refine AK rfl (fun h=> ?_) (fun h=> ?_)
    ·refine AL ?_
     refine xk (Qt _ g n c _ (i*(2*Z)+Z) _ X U V Y _ st1.here (hcmp.here st1) hXl (by omega) (by omega) (by omega) (by omega) (Nat.le_refl _) hpre hgU hgV hn) rfl ?_
     rintro _ hp5 ⟨W,hW,st2⟩
     replace st:=st1.trans st2
     refine AF ?_
     first | refine AD (D0 (n:=2) rfl rfl (by simp only [AI];omega)) rfl rfl ?_ | refine AD (F8 rfl rfl (by simp only [AI];omega)) rfl rfl ?_ | refine AD (F7 rfl rfl) rfl rfl ?_
     refine AF ?_
     refine Ad (2*Z,X++(W++Y)) (.cons rfl (.cons rfl (.cons rfl (.cons (by simp only;rw [Nat.mul_comm 2 Z];rfl) (.nil _))))) ⟨by simp only;omega,by simp only;omega,fun k'=> ?_,st⟩ (by simp only;omega)
     show Cq key (2*Z) (X++(W++Y)) l0 k'
     rcases Nat.lt_or_ge k' (i+1)with h1 | h1
     ·exact (hstep W hW).1 k' h1
     ·have h2:(i+1)*(2*Z)≤k'*(2*Z):=Nat.mul_le_mul_right _ h1
      have h3:=st.natLen
      exact Cq.out (by omega) (by omega)
    ·refine AF ?_
     first | refine AD (D0 (n:=2) rfl rfl (by simp only [AI];omega)) rfl rfl ?_ | refine AD (F8 rfl rfl (by simp only [AI];omega)) rfl rfl ?_ | refine AD (F7 rfl rfl) rfl rfl ?_
     refine AF ?_
     refine Ad (2*Z,l) (.cons rfl (.cons rfl (.cons rfl (.cons (by simp only;rw [Nat.mul_comm 2 Z];rfl) (.nil _))))) ⟨by simp only;omega,by simp only;omega,fun k'=> ?_,st⟩ (by simp only;omega)
     show Cq key (2*Z) l l0 k'
     rcases Nat.lt_trichotomy k' i with h1 | h1 | h1
     ·exact hdone k' h1
     ·subst h1
      exact Cq.double (by omega) (by omega) hU
     ·have h2:(i+1)*(2*Z)≤k'*(2*Z):=Nat.mul_le_mul_right _ h1
      exact Cq.out (by omega) (by omega)
  ·refine AB ?_
   have hll:=st.natLen
   have h0':=hall 0
   unfold Cq at h0'
   rw [Rw (by omega),Rw (by omega)]at h0'
   exact ⟨l1,h0'.1,h0'.2,st⟩
theorem ew {B g n c k:Nat} {l0:List Nat} {caps:Array Value} {key:Nat→Nat} {good:Nat→Prop} {F:List AE} {h0:AA} (st0:St B h0 h0 (DH g n c l0::F)) (hcmp:Hr B h0 F k caps key good)
  (hlt:l0.Pairwise (· < ·)) (hg:∀x∈l0,good x) (hn:n≤1099511627776):
  AG Tryz.prog 293 [.slice (some ⟨g,0,none⟩) n c,.func (.func k) #[] caps] h0 fun _ h'=>∃l,l.Perm l0∧DD key l∧St B h0 h' (DH g n c l::F):=by
 refine Ac Tryz.func293 rfl fun _=>AH ?_
 refine xk (fL st0 hcmp hlt hg hn) rfl ?_
 rintro _ hp h
 refine AB ?_
 exact h
theorem TS {x:Int} {h0:AA}:AG Tryz.prog 318 [.int .i64 x] h0 fun v h'=>v= .bool false∧h0=h':=by
 refine BE Tryz.func318 rfl fun _=>By ?_
 exact ⟨congrArg Value.bool (zu fun h=>h rfl),rfl⟩
theorem Yx {x y:Nat} {h0:AA}:AG Tryz.prog 295 [nV x,nV y] h0 fun v h'=>v= .int .i64 (Ie x y)∧h0=h':=by
 refine Ac Tryz.func295 rfl fun _=>AO ?_
 refine xk (TS) rfl ?_
 rintro _ _ ⟨rfl,rfl⟩
 refine AH ?_
 refine xk (TS) rfl ?_
 rintro _ _ ⟨rfl,rfl⟩
 refine RG ?_
 refine AK rfl (fun h=> ?_) (fun h=> ?_)
 ·refine AH ?_
  unfold Ie
  exact ⟨by rw [if_pos (by omega)];rfl,rfl⟩
 ·refine AP ?_
  refine AK rfl (fun h=> ?_) (fun h=> ?_)
  ·refine AH ?_
   unfold Ie
   exact ⟨by rw [if_neg (by omega),if_pos (by omega)];rfl,rfl⟩
  ·refine AL ?_
   unfold Ie
   exact ⟨by rw [if_neg (by omega),if_neg (by omega)];rfl,rfl⟩
end Go.Bn
end

section
namespace Go.Bn
abbrev PE:=Nat×List Nat
def Fj (a b:PE):Bool:=decide (a.1≤b.1)
theorem JS {a b:PE}:Fj a b=true↔a.1≤b.1:=by unfold Fj;simp
def Ci:List PE→List PE
  | a::b::r=>(a.1+b.1,a.2++b.2)::Ci r
  | _=>[]
def FP (ws:List Nat):List PE:=(List.range ws.length).map fun i=>(ws.getD i 0,[i])
def Bs (ws:List Nat):Nat→List PE
  | 0=>[]
  | j+1=>(FP ws).merge (Ci (Bs ws j)) Fj
abbrev G5 (l:List PE):Prop:=l.Pairwise fun a b=>a.1≤b.1
theorem Xy {x:PE} {l:List PE} (h:G5 (x::l)) {b:Nat} (hb:b < (x::l).length):x.1≤(x::l)[b].1:=by
 cases b with
 | zero=>exact Nat.le_refl _
 | succ b=>exact (List.pairwise_cons.1 h).1 _ (List.getElem_mem _)
theorem Pi:∀ (xs ys:List PE) (t:Nat),t≤xs.length+ys.length→G5 xs→∃a b,a≤xs.length∧b≤ys.length∧a+b=t∧((xs.merge ys Fj).take t).Perm (xs.take a++ys.take b)∧
  ∀i k,(hi:i<xs.length)→(hk:k<ys.length)→k<b→xs[i].1≤ys[k].1→i<a
 | [],ys,t,ht,_=>⟨0,t,Nat.le_refl _,by simpa using ht,by omega,by simp,fun i k hi=>by simp at hi⟩
 | x::xs,[],t,ht,_=>⟨t,0,by simpa using ht,Nat.le_refl _,by omega,by simp,fun i k _ hk=>by simp at hk⟩
 | x::xs,y::ys,0,ht,_=>⟨0,0,Nat.zero_le _,Nat.zero_le _,rfl,by simp,fun i k _ _ hk=>by omega⟩
 | x::xs,y::ys,t+1,ht,hs=>by
  by_cases h:Fj x y=true
  ·obtain ⟨a,b,h1,h2,h3,h4,h5⟩:=Pi xs (y::ys) t (by simp at ht ⊢;omega) (List.pairwise_cons.1 hs).2
   refine ⟨a+1,b,by simp;omega,h2,by omega,?_,?_⟩
   ·rw [List.cons_merge_cons_pos _ _ _ h,List.take_succ_cons,List.take_succ_cons,z5]
    exact h4.cons _
   ·intro i k hi hk hkb hle
    cases i with
    | zero=>omega
    | succ i=>have:=h5 i k (by simpa using hi) hk hkb hle;omega
  ·obtain ⟨a,b,h1,h2,h3,h4,h5⟩:=Pi (x::xs) ys t (by simp at ht ⊢;omega) hs
   refine ⟨a,b+1,h1,by simp;omega,by omega,?_,?_⟩
   ·rw [List.cons_merge_cons_neg _ _ _ h,List.take_succ_cons,List.take_succ_cons]
    exact (h4.cons _).trans List.perm_middle.symm
   ·intro i k hi hk hkb hle
    cases k with
    | zero=>
     have h6:=Xy hs hi
     rw [JS]at h
     simp only [List.getElem_cons_zero]at hle
     omega
    | succ k=>exact h5 i k hi (by simpa using hk) (by omega) hle
 termination_by xs ys=>xs.length+ys.length
theorem JP (ws:List Nat):(FP ws).length=ws.length:=by simp [FP]
theorem LQ {ws:List Nat} {i:Nat} (h:i<ws.length):(FP ws)[i]'(by rw [JP];exact h)=(ws[i],[i]):=by
 simp [FP,List.getD,h]
theorem L8:∀l:List PE,(Ci l).length=l.length/2
 | []=>rfl
 | [_]=>by simp [Ci]
 | a::b::r=>by
  rw [Ci,ze,L8 r,ze,ze];omega
theorem U0:∀ (k:Nat) (l:List PE) (h:k < (Ci l).length) (h1:2*k+1<l.length),(Ci l)[k].1=(l[2*k]'(by omega)).1+l[2*k+1].1
 | _,[],h,_=>by simp [Ci]at h
 | _,[_],h,_=>by simp [Ci]at h
 | 0,x::y::r,h,_=>by simp [Ci]
 | k+1,x::y::r,h,h1=>by
  have ih:=U0 k r (by simp [Ci]at h;exact h) (by simp at h1;omega)
  simp only [Ci,List.getElem_cons_succ,ih,show 2*(k+1)=2*k+1+1 by omega]
theorem L9:∀ {l:List PE} {p:PE},p∈Ci l→∃u v,u∈l∧v∈l∧p=(u.1+v.1,u.2++v.2)
 | [],p,h=>by simp [Ci]at h
 | [_],p,h=>by simp [Ci]at h
 | x::y::r,p,h=>by
  rw [Ci,List.mem_cons]at h
  rcases h with rfl | h
  ·exact ⟨x,y,by simp,by simp,rfl⟩
  ·obtain ⟨u,v,h1,h2,h3⟩:=L9 h
   exact ⟨u,v,by simp [h1],by simp [h2],h3⟩
theorem Uy:∀ {l:List PE},G5 l→G5 (Ci l)
 | [],_=>by simp [Ci]
 | [_],_=>by simp [Ci]
 | x::y::r,h=>by
  rw [Ci,G5,List.pairwise_cons]
  obtain ⟨h1,h2⟩:=List.pairwise_cons.1 h
  obtain ⟨h3,h4⟩:=List.pairwise_cons.1 h2
  refine ⟨fun p hp=> ?_,Uy h4⟩
  obtain ⟨u,v,hu,hv,rfl⟩:=L9 hp
  have:=h1 u (by simp [hu])
  have:=h3 v hv
  simp only;omega
theorem TT {ws:List Nat} (h:ws.Pairwise (· ≤ ·)):G5 (FP ws):=by
 rw [G5,List.pairwise_iff_getElem]
 intro i j hi hj hij
 rw [JP]at hi hj
 rw [LQ hi,LQ hj]
 exact List.pairwise_iff_getElem.1 h i j hi hj hij
theorem bM {xs ys:List PE} (hx:G5 xs) (hy:G5 ys):G5 (xs.merge ys Fj):=by
 have h:=List.pairwise_merge (le:=Fj) (fun a b c h1 h2=>by rw [JS]at*;omega) (fun a b=>by simp [Fj];omega) xs ys
  (hx.imp fun h=>JS.2 h) (hy.imp fun h=>JS.2 h)
 exact h.imp fun h=>JS.1 h
theorem dy {ws:List Nat} (h:ws.Pairwise (· ≤ ·)):∀j,G5 (Bs ws j)
 | 0=>List.Pairwise.nil
 | j+1=>bM (TT h) (Uy (dy h j))
theorem QW (ws:List Nat) (j:Nat):(Bs ws (j+1)).length=ws.length+(Bs ws j).length/2:=by
 rw [Bs,List.length_merge,JP,L8]
theorem Vd (ws:List Nat) (h:1≤ws.length):∀j,∃d,(Bs ws (j+1)).length+d=2*ws.length∧1≤d∧d≤ws.length/2^j+1
 | 0=>⟨ws.length,by rw [QW];simp [Bs];omega,h,by rw [Nat.pow_zero,Nat.div_one];omega⟩
 | j+1=>by
  obtain ⟨d,h1,h2,h3⟩:=Vd ws h j
  have e:=QW ws (j+1)
  have e2:ws.length/2^(j+1)=ws.length/2^j/2:=by rw [Nat.pow_succ,Nat.div_div_eq_div_mul]
  rw [e2]
  generalize ws.length/2^j=q at*
  exact ⟨(d+1)/2,by omega,by omega,by omega⟩
theorem dz (ws:List Nat) (h:1≤ws.length) (h2:ws.length≤16000):(Bs ws 15).length=2*ws.length-1:=by
 obtain ⟨d,h3,h4,h5⟩:=Vd ws h 14
 have e:ws.length/2^14=0:=Nat.div_eq_of_lt (Nat.lt_of_le_of_lt h2 (by decide))
 rw [e]at h5
 have e3:Bs ws (14+1)=Bs ws 15:=rfl
 rw [e3]at h3
 omega
theorem QV (ws:List Nat):∀j,(Bs ws j).length≤2*ws.length
 | 0=>Nat.zero_le _
 | j+1=>by have:=QV ws j;rw [QW];omega
theorem N0 {ws:List Nat}:∀j,∀e∈Bs ws j,1≤e.2.length
 | 0,e,h=>by simp [Bs]at h
 | j+1,e,h=>by
  rw [Bs,List.mem_merge]at h
  rcases h with h | h
  ·simp only [FP,List.mem_map]at h
   obtain ⟨i,_,rfl⟩:=h;simp
  ·obtain ⟨u,v,hu,hv,rfl⟩:=L9 h
   have:=N0 j u hu
   simp only [z2];omega
theorem cq {ws:List Nat} {j:Nat}:∀e∈Ci (Bs ws j),2≤e.2.length:=by
 intro e h
 obtain ⟨u,v,hu,hv,rfl⟩:=L9 h
 have:=N0 j u hu
 have:=N0 j v hv
 simp only [z2];omega
def FB (e:PE):Bool:=e.2.length==1
def EJ (ws:List Nat) (j t:Nat):Nat:=((Bs ws j).take t).countP FB
def Eo (ws:List Nat):Nat→Nat→List Nat
  | 0,_=>[]
  | j+1,t=>EJ ws (j+1) t::Eo ws j (2*(t-EJ ws (j+1) t))
theorem LS (ws:List Nat):∀j t,(Eo ws j t).length=j
 | 0,_=>rfl
 | j+1,t=>by rw [Eo,ze,LS ws j]
theorem Jq {ws:List Nat} (h:ws.Pairwise (· ≤ ·)) (j t:Nat) (ht:t≤(Bs ws (j+1)).length):
  EJ ws (j+1) t≤t∧EJ ws (j+1) t≤ws.length∧2*(t-EJ ws (j+1) t)≤(Bs ws j).length∧
  ((Bs ws (j+1)).take t).Perm ((FP ws).take (EJ ws (j+1) t)++(Ci (Bs ws j)).take (t-EJ ws (j+1) t))∧
  ∀i k,(hi:i<ws.length)→(hk:k < (Ci (Bs ws j)).length)→k<t-EJ ws (j+1) t→ws[i]≤(Ci (Bs ws j))[k].1→i<EJ ws (j+1) t:=by
 rw [Bs,List.length_merge]at ht
 obtain ⟨a,b,h1,h2,h3,h4,h5⟩:=Pi (FP ws) (Ci (Bs ws j)) t ht (TT h)
 have hn:EJ ws (j+1) t=a:=by
  unfold EJ
  rw [Bs,h4.countP_eq,List.countP_append]
  have e1:((FP ws).take a).countP FB=a:=by
   rw [List.countP_eq_length.2,z6,Nat.min_eq_left h1]
   intro e he
   have:=List.mem_of_mem_take he
   simp only [FP,List.mem_map]at this
   obtain ⟨i,_,rfl⟩:=this;rfl
  have e2:((Ci (Bs ws j)).take b).countP FB=0:=by
   rw [List.countP_eq_zero]
   intro e he
   have:=cq e (List.mem_of_mem_take he)
   unfold FB
   rw [beq_iff_eq];omega
  rw [e1,e2];rfl
 rw [hn]
 obtain rfl:b=t-a:=by omega
 rw [JP]at h1
 rw [L8]at h2
 refine ⟨by omega,h1,by omega,h4,fun i k hi hk hkb hle=>h5 i k (by rw [JP];exact hi) hk hkb ?_⟩
 rw [LQ hi];exact hle
theorem Tw {ws:List Nat} (h:ws.Pairwise (· ≤ ·)):∀ (j t:Nat),t≤(Bs ws j).length→∀a∈Eo ws j t,a≤ws.length
 | 0,t,_,a,ha=>by simp [Eo]at ha
 | j+1,t,ht,a,ha=>by
  obtain ⟨h1,h2,h3,h4,_⟩:=Jq h j t ht
  rw [Eo,List.mem_cons]at ha
  rcases ha with rfl | ha
  ·exact h2
  ·exact Tw h j _ h3 a ha
theorem ao {ws:List Nat} (h:ws.Pairwise (· ≤ ·)) (j t:Nat) (ht:t≤(Bs ws (j+1+1)).length):
  EJ ws (j+1) (2*(t-EJ ws (j+1+1) t))≤EJ ws (j+1+1) t:=by
 obtain ⟨h1,h2,h3,h4,h5⟩:=Jq h (j+1) t ht
 obtain ⟨b,hb⟩:∃b,t-EJ ws (j+1+1) t=b:=⟨_,rfl⟩
 obtain ⟨a,ha⟩:∃a,EJ ws (j+1+1) t=a:=⟨_,rfl⟩
 rw [hb]at h3 h5 ⊢
 rw [ha]at h5 h2 ⊢
 obtain ⟨k1,k2,k3,k4,_⟩:=Jq h j (2*b) h3
 obtain ⟨a',ha'⟩:∃a',EJ ws (j+1) (2*b)=a':=⟨_,rfl⟩
 rw [ha']at k1 k2 k4 ⊢
 rcases Nat.eq_zero_or_pos a' with h0 | h0
 ·omega
 have hi:a'-1<ws.length:=by omega
 have hmem:(ws[a'-1],[a'-1])∈(Bs ws (j+1)).take (2*b):=by
  rw [k4.mem_iff,List.mem_append]
  left
  rw [List.mem_take_iff_getElem]
  exact ⟨a'-1,by rw [JP];omega,LQ hi⟩
 obtain ⟨q,hq,he⟩:=List.mem_take_iff_getElem.1 hmem
 have hqb:q<2*b:=by omega
 have hlen:=L8 (Bs ws (j+1))
 have:=h5 (a'-1) (q/2) hi (by omega) (by omega) (by
  rw [U0 (q/2) _ (by omega) (by omega)]
  rcases Nat.mod_two_eq_zero_or_one q with hm | hm
  ·have e:2*(q/2)=q:=by omega
   simp only [e,he];omega
  ·have e:2*(q/2)+1=q:=by omega
   simp only [e,he];omega)
 omega
theorem Tv {ws:List Nat} (h:ws.Pairwise (· ≤ ·)):∀ (j t:Nat),t≤(Bs ws j).length→(Eo ws j t).Pairwise (· ≥ ·)
 | 0,t,_=>List.Pairwise.nil
 | 1,t,_=>by simp [Eo]
 | j+1+1,t,ht=>by
  obtain ⟨h1,h2,h3,h4,_⟩:=Jq h (j+1) t ht
  have ih:=Tv h (j+1) _ h3
  have hn:=ao h j t ht
  rw [Eo]
  rw [Eo]at ih ⊢
  refine List.pairwise_cons.2 ⟨fun a ha=> ?_,ih⟩
  rcases List.mem_cons.1 ha with rfl | ha
  ·exact hn
  ·exact zw ((List.pairwise_cons.1 ih).1 a ha) hn
def Ko:List Nat→Nat
  | []=>0
  | a::axs=>a*2^axs.length+Ko axs
theorem W7 {ws:List Nat} (h:ws.Pairwise (· ≤ ·)):∀ (j t:Nat),t≤(Bs ws j).length→2*Ko (Eo ws j t)=t*2^j
 | 0,t,ht=>by
  obtain rfl:t=0:=by simpa [Bs]using ht
  rfl
 | j+1,t,ht=>by
  obtain ⟨h1,h2,h3,h4,_⟩:=Jq h j t ht
  have ih:=W7 h j _ h3
  rw [Eo,Ko,LS,Nat.mul_add,ih]
  obtain ⟨d,hd⟩:∃d,t=EJ ws (j+1) t+d:=⟨t-EJ ws (j+1) t,by omega⟩
  generalize EJ ws (j+1) t=a at*
  subst hd
  rw [show a+d-a=d by omega,Nat.pow_succ,Nat.add_mul,Nat.mul_assoc 2 d,Nat.mul_comm (2^j) 2,Nat.mul_left_comm 2 a,Nat.mul_left_comm 2 d]
end Go.Bn
end

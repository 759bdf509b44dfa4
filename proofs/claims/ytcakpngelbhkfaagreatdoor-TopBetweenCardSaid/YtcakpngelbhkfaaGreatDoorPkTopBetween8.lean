/- Packed texts of a claim: what its theorem uses, joined. -/
import Derived.Test.YtcakpngelbhkfaaGreatDoorProg
import Derived.Test.YtcakpngelbhkfaaGreatDoorPkTopBetween7
set_option maxRecDepth 100000
set_option maxHeartbeats 4000000
set_option linter.unusedVariables false
set_option linter.unusedSimpArgs false
set_option linter.unusedSectionVars false
set_option linter.defProp false
section
namespace Go.Bn
open Go Proofs
theorem PB {ws:List Nat} {s:Nat} (h2:ws.length≤16000) (hs:s<ws.length) (hp:0<ws.getD s 0):(DY ws).getD s 0≠0:=by
 rw [Tp hs]
 have:=Tn (ws:=ws) h2 (Hk.2 ⟨hs,hp⟩)
 omega
theorem O7:∀ (ys:List Sy) (s:List Nat×List Nat×Nat) (y:Sy),s.1.length=273→s.2.1.length=30→y.a.num.toNat<273→y.b.num.toNat<30→
  ((y∈ys∨0<s.1.getD y.a.num.toNat 0)→0 < (ys.foldl C2 s).1.getD y.a.num.toNat 0)∧((y.m=true∧y∈ys∨0<s.2.1.getD y.b.num.toNat 0)→0 < (ys.foldl C2 s).2.1.getD y.b.num.toNat 0)∧((y.m=true∧y∈ys∨0<s.2.2)→0 < (ys.foldl C2 s).2.2)
 | [],s,y,_,_,_,_=>⟨fun h=>h.resolve_left (by simp),fun h=>h.resolve_left (by simp),fun h=>h.resolve_left (by simp)⟩
 | z::ys,s,y,h1,h2,h3,h4=>by
  rw [List.foldl_cons]
  obtain ⟨i1,i2,i3⟩:=O7 ys (C2 s z) y (by simp only [C2];rw [Ky];exact h1) (by simp only [C2];split;rw [Ky];exact h2;exact h2) h3 h4
  refine ⟨fun h=>i1 ?_,fun h=>i2 ?_,fun h=>i3 ?_⟩
  ·rcases h with h | h
   ·rcases List.mem_cons.1 h with rfl | h
    ·exact .inr (OV (by omega))
    ·exact .inl h
   ·exact .inr (Nat.lt_of_lt_of_le h (OU _ _ _))
  ·simp only [C2]
   rcases h with ⟨hm,h⟩ | h
   ·rcases List.mem_cons.1 h with rfl | h
    ·rw [if_pos hm];exact .inr (OV (by omega))
    ·exact .inl ⟨hm,h⟩
   ·refine .inr ?_
    split
    ·exact Nat.lt_of_lt_of_le h (OU _ _ _)
    ·exact h
  ·simp only [C2]
   rcases h with ⟨hm,h⟩ | h
   ·rcases List.mem_cons.1 h with rfl | h
    ·rw [if_pos hm];exact .inr (Nat.succ_pos _)
    ·exact .inl ⟨hm,h⟩
   ·refine .inr ?_
    split <;> omega
theorem Ta {ys:List Sy} {y:Sy} (hy:y∈ys) (h3:y.a.num.toNat<273) (h4:y.b.num.toNat<30):(lA ys).getD y.a.num.toNat 0≠0:=by
 have hs:Ga.1.length=273∧Ga.2.1.length=30:=by decide+kernel
 unfold lA
 exact PB (by rw [Hc];decide) (by rw [Hc];exact h3) ((O7 ys Ga y hs.1 hs.2 h3 h4).1 (.inl hy))
theorem aM (ys:List Sy):(lA ys).getD 256 0≠0:=by
 unfold lA
 exact PB (by rw [Hc];decide) (by rw [Hc];decide) (S0 ys)
theorem Tb {ys:List Sy} {y:Sy} (hy:y∈ys) (h3:y.a.num.toNat<273) (h4:y.b.num.toNat<30) (hm:y.m=true):(lB ys).getD y.b.num.toNat 0≠0:=by
 have hs:Ga.1.length=273∧Ga.2.1.length=30:=by decide+kernel
 obtain ⟨_,i2,i3⟩:=O7 ys Ga y hs.1 hs.2 h3 h4
 have h0:=i3 (.inl ⟨hm,hy⟩)
 unfold lB
 refine PB (by rw [Ho];decide) (by rw [Ho];exact h4) ?_
 unfold FU
 rw [if_neg (by unfold DO;omega)]
 exact i2 (.inl ⟨hm,hy⟩)
theorem PT (ys:List Sy):(lA ys).length=273:=by unfold lA;rw [Hg,Hc]
theorem PU (ys:List Sy):(lB ys).length=30:=by unfold lB;rw [Hg,Ho]
theorem YS {ts:List AW} (hR:Fo ts) (hby:∀t∈ts,0≤t.byte∧t.byte<256) (hd:GO 0 ts) {most:Int} (hm:(CQ ts:Int)≤most) (Z:List Bool):
  De (EA (ts.map BH)++Z) most=(ts,CQ ts,(EA (ts.map BH)).length,0):=by
 obtain ⟨ys,hys⟩:∃ys,ts.map BH=ys:=⟨_,rfl⟩
 have hY:∀y∈ys,0≤y.a.num∧y.a.num<273∧0≤y.b.num∧y.b.num<30:=fun y hy=>by
  rw [←hys]at hy
  obtain ⟨t,ht,rfl⟩:=List.mem_map.1 hy
  obtain ⟨_,h1,h2,_,h3,h4⟩:=ND (hR.2 t ht) (hby t ht)
  exact ⟨h1,h2,h3,h4⟩
 have oka:=NE ys
 have okb:=NF (ys:=ys) (fun y hy=>by have:=hY y hy;omega)
 have hla:=PT ys
 have hlb:=PU ys
 have h256:=aM ys
 have hT:∀t∈ts,t.right∧(0≤t.byte∧t.byte<256)∧(lA ys).getD (BH t).a.num.toNat 0≠0∧((BH t).m=true→(lB ys).getD (BH t).b.num.toNat 0≠0):=fun t ht=>by
  have hm:BH t∈ys:=by rw [←hys];exact List.mem_map_of_mem ht
  obtain ⟨h1,h2,h3,h4⟩:=hY _ hm
  exact ⟨hR.2 t ht,hby t ht,Ta hm (by omega) (by omega),Tb hm (by omega) (by omega)⟩
 rw [hys]
 obtain ⟨la,hA⟩:∃x,lA ys=x:=⟨_,rfl⟩
 obtain ⟨lb,hB⟩:∃x,lB ys=x:=⟨_,rfl⟩
 have hbl:EA ys=Be la++Be lb++ys.flatMap (B1 la lb)++Bh (val la 256) (CI la 256):=by unfold EA;rw [hA,hB]
 rw [hA]at oka hla h256 hT
 rw [hB]at okb hlb hT
 obtain ⟨S,hS⟩:∃S,EA ys++Z=S:=⟨_,rfl⟩
 have hS1:S=[]++(Be la++(Be lb++(ys.flatMap (B1 la lb)++(Bh (val la 256) (CI la 256)++Z)))):=by rw [←hS,hbl];simp
 have hS2:S=Be la++(Be lb++(ys.flatMap (B1 la lb)++(Bh (val la 256) (CI la 256)++Z))):=by rw [hS1];rfl
 have hS3:S=(Be la++Be lb)++(ys.flatMap (B1 la lb)++(Bh (val la 256) (CI la 256)++Z)):=by rw [hS2];simp
 have t1:=OD oka.2.2.1 oka.1 oka.2.1 [] (Be lb++(ys.flatMap (B1 la lb)++(Bh (val la 256) (CI la 256)++Z)))
 rw [←hS1,zk,Nat.zero_add]at t1
 have t2:=OD okb.2.2.1 okb.1 okb.2.1 (Be la) (ys.flatMap (B1 la lb)++(Bh (val la 256) (CI la 256)++Z))
 rw [←hS2]at t2
 have hC:Df S 0=(0,la,lb,(Be la).length+(Be lb).length):=by
  unfold Df
  rw [t1]
  simp only
  rw [t2]
  simp only
  rw [if_neg (by omega),if_neg (by omega),if_neg (by omega),if_neg (by rintro (h | h);exact h (MH oka);exact h (MH okb))]
 have hlen:S.length=(EA ys).length+Z.length:=by rw [←hS,z2]
 have hyl:ys.length=ts.length:=by rw [←hys,z3]
 have hg:=TD oka okb hla hlb h256 Z (most:=most) ts hT (S.length+1) 0 [] (Be la++Be lb) (by
  have:∀l:List Sy,(∀y∈l,1≤(B1 la lb y).length)→l.length≤(l.flatMap (B1 la lb)).length:=by
   intro l
   induction l with
   | nil=>intro _;simp
   | cons y l ih=>
    intro h
    have h1:=h y zp
    have h2:=ih fun z hz=>h z (zq _ hz)
    rw [zt,z2,ze];omega
  have h1:=this ys fun y hy=>by
   rw [←hys]at hy
   obtain ⟨t,ht,rfl⟩:=List.mem_map.1 hy
   obtain ⟨_,_,g3,_⟩:=hT t ht
   have g:=hY (BH t) (by rw [←hys];exact List.mem_map_of_mem ht)
   unfold B1 Dn
   rw [z2,z2,Dp]
   have:CI la (BH t).a.num=la.getD (BH t).a.num.toNat 0:=by unfold CI;rw [if_neg (by omega)]
   omega
  rw [hS3]
  simp only [z2]
  omega) hd (by rw [Nat.zero_add];exact hm)
 rw [hys,←hS3]at hg
 rw [hS]
 unfold De
 rw [hC]
 simp only
 rw [if_neg (by omega),←z2,hg,hbl]
 simp only [z4,Nat.zero_add,z2,Prod.mk.injEq,and_true,true_and]
end Go.Bn
end

section
namespace Go.Bn
def Dt:Nat→List UInt8→List UInt8→List UInt8×Int
  | 0,_,_=>([],2)
  | f+1,l,out=>
    if l.length<2 then ([],2)
    else if l.length<2+BZ (l.take 2)then ([],2)
    else if BZ (l.take 2)=0 then (if 2<l.length then ([],3)else (out,0))
    else Dt f (l.drop (2+BZ (l.take 2))) (out++(l.drop 2).take (BZ (l.take 2)))
def GV (l:List UInt8):List UInt8×Int:=Dt (l.length+1) l []
theorem VM:∀ (f f':Nat) (l out:List UInt8),l.length<f→l.length<f'→Dt f l out=Dt f' l out
 | 0,_,_,_,h,_=>by omega
 | _,0,_,_,_,h=>by omega
 | f+1,f'+1,l,out,h,h'=>by
  simp only [Dt]
  split
  ·rfl
  ·split
   ·rfl
   ·split
    ·rfl
    ·exact VM f f' _ _ (by rw [z7];omega) (by rw [z7];omega)
theorem dH {m:Nat} {l out:List UInt8} {a n:Nat} (hl:l.length=m) (h2:a+2≤m) (hn:BZ ((l.drop a).take 2)=n) (hle:a+2+n≤m) (h0:n≠0):
  Dt (m-a+1) (l.drop a) out=Dt (m - (a+2+n)+1) (l.drop (a+2+n)) (out++(l.drop (a+2)).take n):=by
 rw [Dt,hn,if_neg (by rw [z7];omega),if_neg (by rw [z7];omega),if_neg h0,List.drop_drop,List.drop_drop,←Nat.add_assoc]
 exact VM _ _ _ _ (by rw [z7];omega) (by rw [z7];omega)
theorem dG {m:Nat} {l out:List UInt8} {a:Nat} (hl:l.length=m) (h2:m<a+2) (ha:a≤m):Dt (m-a+1) (l.drop a) out=([],2):=by
 rw [Dt,if_pos (by rw [z7];omega)]
theorem dE {m:Nat} {l out:List UInt8} {a n:Nat} (hl:l.length=m) (h2:a+2≤m) (hn:BZ ((l.drop a).take 2)=n) (hle:m<a+2+n):Dt (m-a+1) (l.drop a) out=([],2):=by
 rw [Dt,hn,if_neg (by rw [z7];omega),if_pos (by rw [z7];omega)]
theorem dF {m:Nat} {l out:List UInt8} {a:Nat} (hl:l.length=m) (h2:a+2<m) (hn:BZ ((l.drop a).take 2)=0):Dt (m-a+1) (l.drop a) out=([],3):=by
 rw [Dt,hn,if_neg (by rw [z7];omega),if_neg (by rw [z7];omega),if_pos rfl,if_pos (by rw [z7];omega)]
theorem dD {m:Nat} {l out:List UInt8} {a:Nat} (hl:l.length=m) (h2:a+2=m) (hn:BZ ((l.drop a).take 2)=0):Dt (m-a+1) (l.drop a) out=(out,0):=by
 rw [Dt,hn,if_neg (by rw [z7];omega),if_neg (by rw [z7];omega),if_pos rfl,if_neg (by rw [z7];omega)]
end Go.Bn
end

section
namespace Go.Bn
abbrev Mv:=Nat→List UInt8→Nat×List UInt8×Bool×Nat
structure RL (mv:Mv) (lim:Nat) (I:Nat→List UInt8→Prop):Prop where
  pre:∀a out,I a out→∃x,(mv a out).2.1=out++x
  grow:∀a out,I a out→(mv a out).2.2.1=false→out.length < (mv a out).2.1.length∧(mv a out).2.2.2=0∧I (mv a out).1 (mv a out).2.1
  here:∀a out,I a out→out.length≤lim
  le:∀a out,I a out→(mv a out).2.1.length≤lim
inductive IX (mv:Mv):Nat→List UInt8→List UInt8→Nat→Prop
  | over {a:Nat} {out:List UInt8} (h:(mv a out).2.2.1=true):IX mv a out (mv a out).2.1 (mv a out).2.2.2
  | more {a:Nat} {out gB:List UInt8} {gE:Nat} (h:(mv a out).2.2.1=false) (g:IX mv (mv a out).1 (mv a out).2.1 gB gE):IX mv a out gB gE
theorem IX.pre {mv:Mv} {lim:Nat} {I:Nat→List UInt8→Prop} (ok:RL mv lim I) {a:Nat} {out gB:List UInt8} {gE:Nat} (g:IX mv a out gB gE) (hI:I a out):(∃x,gB=out++x)∧gB.length≤lim:=by
 induction g with
 | over h=>exact ⟨ok.pre _ _ hI,ok.le _ _ hI⟩
 | more h _ ih=>
  obtain ⟨⟨x,hx⟩,hl⟩:=ih (ok.grow _ _ hI h).2.2
  obtain ⟨y,hy⟩:=ok.pre _ _ hI
  exact ⟨⟨y++x,by rw [hx,hy,z8]⟩,hl⟩
theorem IX.all {mv:Mv} {lim:Nat} {I:Nat→List UInt8→Prop} (ok:RL mv lim I):∀ (n a:Nat) (out:List UInt8),lim-out.length≤n→I a out→∃gB gE,IX mv a out gB gE
 | n,a,out,hn,hI=>by
  cases hh:(mv a out).2.2.1 with
  | true=>exact ⟨_,_,.over hh⟩
  | false=>
   obtain ⟨h1,_,h2⟩:=ok.grow _ _ hI hh
   have h3:=ok.le _ _ hI
   cases n with
   | zero=>omega
   | succ n=>
    obtain ⟨gB,gE,g⟩:=IX.all ok n _ _ (by omega) h2
    exact ⟨gB,gE,.more hh g⟩
def Fe:Nat→Nat→List UInt8→List UInt8
  | 0,_,out=>out
  | n+1,d,out=>Fe n d (out++[out.getD (out.length-d) 0])
theorem SJ:∀ (n d:Nat) (out:List UInt8),(Fe n d out).length=out.length+n
 | 0,_,_=>rfl
 | n+1,d,out=>by rw [Fe,SJ n d];simp;omega
def FM (t:AW) (out:List UInt8):List UInt8:=if t.len=0 then out++[UInt8.ofNat t.byte.toNat]else Fe t.len.toNat t.dist.toNat out
theorem Sl {t:AW} (h:t.right) (out:List UInt8):(FM t out).length=out.length+t.size:=by
 unfold AW.right at h
 unfold FM AW.size
 split
 ·rename_i h0;simp [h0]
 ·rename_i h0
  rw [if_neg h0]at h
  rw [SJ];omega
end Go.Bn
end

section
namespace Go.Bn
def Dq (lv:Int):Nat:=if lv≤0 then 1 else if lv=1 then 4 else if lv=2 then 32 else 256
theorem ZG (lv:Int):1≤Dq lv∧Dq lv≤256:=by unfold Dq;split <;> (try split) <;> (try split) <;> omega
def D8 (b:List UInt8) (lv:Int) (a:Nat):AW:=
  if (D9 b a (Dq lv)).1=0∨(2≤lv∧(D9 b a (Dq lv)).1<258∧(D9 b a (Dq lv)).1 < (D9 b (a+1) (Dq lv)).1)then ⟨((b.getD a 0).toNat:Int),0,0⟩
  else ⟨0,((D9 b a (Dq lv)).1:Int),((D9 b a (Dq lv)).2:Int)⟩
def Du (b:List UInt8) (lv:Int):Nat→Nat→List AW
  | 0,_=>[]
  | f+1,a=>if a<b.length then D8 b lv a::Du b lv f (a+(D8 b lv a).size)else []
def D7 (b:List UInt8) (lv:Int):List AW:=Du b lv b.length 0
theorem SK {b:List UInt8} {d:Nat} (hd:1≤d):∀ (n a:Nat),a+n≤b.length→d≤a→(∀i,i<n→b[a+i]? =b[a+i-d]?)→Fe n d (b.take a)=b.take (a+n)
 | 0,_,_,_,_=>rfl
 | n+1,a,hl,ha,h=>by
  rw [Fe,z6,Nat.min_eq_left (by omega)]
  have h0:=h 0 (by omega)
  rw [Nat.add_zero]at h0
  have hg:(b.take a).getD (a-d) 0=b[a]'(by omega):=by
   rw [List.getD_eq_getElem?_getD,List.getElem?_take,if_pos (by omega),←h0,z9 (by omega)];rfl
  rw [hg,←List.take_succ_eq_append_getElem (by omega),SK hd n (a+1) (by omega) (by omega) (fun i hi=>by
   have:=h (i+1) (by omega)
   rw [show a+1+i=a+(i+1) by omega];exact this)]
  congr 1;omega
theorem OE {b:List UInt8} {lv:Int} {a:Nat} (ha:a<b.length):(D8 b lv a).right∧(0≤(D8 b lv a).byte∧(D8 b lv a).byte<256)∧(D8 b lv a).dist≤a∧a+(D8 b lv a).size≤b.length∧FM (D8 b lv a) (b.take a)=b.take (a+(D8 b lv a).size):=by
 have hb:=(b.getD a 0).toNat_lt
 have hok:=YC b a (Dq lv)
 unfold D8
 split
 ·refine ⟨by unfold AW.right;rw [if_pos rfl],⟨by simp only;omega,by simp only;omega⟩,by simp only;omega,?_,?_⟩
  ·unfold AW.size;simp only;omega
  ·unfold FM AW.size
   rw [if_pos rfl]
   simp only [Int.toNat_natCast]
   rw [show max 1 (Int.toNat 0)=1 from rfl,List.take_succ_eq_append_getElem ha,GR ha]
   congr 2
   exact UInt8.ofNat_toNat
 ·rename_i hn
  obtain ⟨M,hM⟩:∃M,D9 b a (Dq lv)=M:=⟨_,rfl⟩
  rw [hM]at hok hn ⊢
  rcases hok with rfl | ⟨h3,he⟩
  ·exact absurd (.inl rfl) hn
  ·have hin:=PX (b:=b) (a:=a) (d:=M.2) (by omega)
   have hle:=Tj b a M.2
   have hf:=NK b a M.2
   refine ⟨?_,⟨by simp only;omega,by simp only;omega⟩,by simp only;omega,?_,?_⟩
   ·unfold AW.right
    simp only
    rw [if_neg (by omega)]
    refine ⟨trivial,by omega,by omega,by omega,by omega⟩
   ·unfold AW.size;simp only;omega
   ·unfold FM AW.size
    simp only
    rw [if_neg (by omega)]
    simp only [Int.toNat_natCast]
    rw [Nat.max_eq_right (by omega)]
    exact SK hin.1 M.1 a (by omega) hin.2.2.1 (fun i hi=>(aZ (by omega)).1)
def EC (ts:List AW) (out:List UInt8):List UInt8:=ts.foldl (fun o t=>FM t o) out
theorem OA (t:AW) (ts:List AW):CQ (t::ts)=t.size+CQ ts:=by simp [CQ]
theorem AW.size_pos (t:AW):1≤t.size:=by unfold AW.size;omega
theorem Qk {b:List UInt8} {lv:Int}:∀ (f a:Nat),a≤b.length→b.length-a≤f→(∀t∈Du b lv f a,t.right∧0≤t.byte∧t.byte<256)∧GO a (Du b lv f a)∧a+CQ (Du b lv f a)=b.length∧(Du b lv f a).length≤b.length-a∧EC (Du b lv f a) (b.take a)=b
 | 0,a,ha,hf=>by
  have:a=b.length:=by omega
  subst this
  rw [Du]
  refine ⟨by simp,trivial,by simp [CQ],by simp,by simp [EC]⟩
 | f+1,a,ha,hf=>by
  rw [Du]
  split
  ·rename_i hlt
   obtain ⟨h1,h2,h3,h4,h5⟩:=OE (lv:=lv) hlt
   have hp:=AW.size_pos (D8 b lv a)
   obtain ⟨i1,i2,i3,i4,i5⟩:=Qk (lv:=lv) f (a+(D8 b lv a).size) h4 (by omega)
   obtain ⟨T,hT⟩:∃T,Du b lv f (a+(D8 b lv a).size)=T:=⟨_,rfl⟩
   rw [hT]at i1 i2 i3 i4 i5 ⊢
   refine ⟨fun t ht=> ?_,⟨h3,i2⟩,?_,?_,?_⟩
   ·rcases List.mem_cons.1 ht with rfl | ht
    ·exact ⟨h1,h2⟩
    ·exact i1 t ht
   ·rw [OA];omega
   ·rw [ze];omega
   ·unfold EC at i5 ⊢
    rw [List.foldl_cons,h5];exact i5
  ·have:a=b.length:=by omega
   subst this
   refine ⟨by simp,trivial,by simp [CQ],by simp,by simp [EC]⟩
theorem Ql {b:List UInt8} (lv:Int) (hb:b.length≤65536):Fo (D7 b lv)∧(∀t∈D7 b lv,0≤t.byte∧t.byte<256)∧GO 0 (D7 b lv)∧CQ (D7 b lv)=b.length∧(D7 b lv).length≤b.length∧EC (D7 b lv) []=b:=by
 obtain ⟨h1,h2,h3,h4,h5⟩:=Qk (b:=b) (lv:=lv) b.length 0 (Nat.zero_le _) (by omega)
 refine ⟨⟨by unfold D7;omega,fun t ht=>(h1 t ht).1⟩,fun t ht=>(h1 t ht).2,h2,by unfold D7;omega,by unfold D7;omega,h5⟩
theorem WK {b:List UInt8} {lv:Int}:∀ (f g a:Nat),a≤b.length→b.length-a≤f→b.length-a≤g→Du b lv f a=Du b lv g a
 | 0,0,_,_,_,_=>rfl
 | 0,g+1,a,_,h,_=>by rw [Du,Du,if_neg (by omega)]
 | f+1,0,a,_,_,h=>by rw [Du,Du,if_neg (by omega)]
 | f+1,g+1,a,ha,h,h'=>by
  rw [Du,Du]
  split
  ·rename_i hlt
   obtain ⟨_,_,_,h4,_⟩:=OE (lv:=lv) hlt
   have hp:=AW.size_pos (D8 b lv a)
   rw [WK f g _ h4 (by omega) (by omega)]
  ·rfl
end Go.Bn
end

section
namespace Go.Bn
open Go Proofs
theorem TF {la lb:List Nat} (oka:Bi la) (okb:Bi lb) (h273:la.length=273) (h30:lb.length=30) (Z:List Bool) {most:Int}:∀ (ts:List AW),(∀t∈ts,t.right∧(0≤t.byte∧t.byte<256)∧la.getD (BH t).a.num.toNat 0≠0∧((BH t).m=true→lb.getD (BH t).b.num.toNat 0≠0))→∀ (f sz:Nat) (acc:List AW) (Q:List Bool),ts.length<f→GO sz ts→(sz:Int)≤most→most < ((sz+CQ ts:Nat):Int)→
  FA la lb (Q++((ts.map BH).flatMap (B1 la lb)++Z)) most f Q.length sz acc=([],0,0,5)
 | [],_,f,sz,acc,Q,hf,_,h1,h2=>by simp [CQ]at h2;omega
 | t::ts,h,f,sz,acc,Q,hf,hd,hm1,hm=>by
  obtain ⟨g,rfl⟩:∃g,f=g+1:=⟨f-1,by simp at hf;omega⟩
  obtain ⟨h1,h2,h3,h4⟩:=h t zp
  obtain ⟨d1,d2⟩:=hd
  have hst:CQ (t::ts)=t.size+CQ ts:=by simp [CQ]
  rw [hst]at hm
  rw [zj,zt,z8]
  have hn:=UL oka okb h273 h30 h1 h2 h3 h4 Q ((ts.map BH).flatMap (B1 la lb)++Z)
  rw [FA,hn]
  simp only
  rw [if_neg (by simp),if_neg (by omega)]
  split
  ·rfl
  ·have ih:=TF oka okb h273 h30 Z (most:=most) ts (fun x hx=>h x (zq _ hx)) g (sz+t.size) (acc++[t]) (Q++B1 la lb (BH t)) (by simp at hf;omega) d2 (by omega) (by omega)
   rw [z8,z2]at ih
   exact ih
theorem YU {ts:List AW} (hR:Fo ts) (hby:∀t∈ts,0≤t.byte∧t.byte<256) (hd:GO 0 ts) {most:Int} (h0:0≤most) (hm:most < (CQ ts:Int)) (Z:List Bool):
  De (EA (ts.map BH)++Z) most=([],0,0,5):=by
 obtain ⟨ys,hys⟩:∃ys,ts.map BH=ys:=⟨_,rfl⟩
 have hY:∀y∈ys,0≤y.a.num∧y.a.num<273∧0≤y.b.num∧y.b.num<30:=fun y hy=>by
  rw [←hys]at hy
  obtain ⟨t,ht,rfl⟩:=List.mem_map.1 hy
  obtain ⟨_,h1,h2,_,h3,h4⟩:=ND (hR.2 t ht) (hby t ht)
  exact ⟨h1,h2,h3,h4⟩
 have oka:=NE ys
 have okb:=NF (ys:=ys) (fun y hy=>by have:=hY y hy;omega)
 have hla:=PT ys
 have hlb:=PU ys
 have hT:∀t∈ts,t.right∧(0≤t.byte∧t.byte<256)∧(lA ys).getD (BH t).a.num.toNat 0≠0∧((BH t).m=true→(lB ys).getD (BH t).b.num.toNat 0≠0):=fun t ht=>by
  have hm:BH t∈ys:=by rw [←hys];exact List.mem_map_of_mem ht
  obtain ⟨h1,h2,h3,h4⟩:=hY _ hm
  exact ⟨hR.2 t ht,hby t ht,Ta hm (by omega) (by omega),Tb hm (by omega) (by omega)⟩
 rw [hys]
 obtain ⟨la,hA⟩:∃x,lA ys=x:=⟨_,rfl⟩
 obtain ⟨lb,hB⟩:∃x,lB ys=x:=⟨_,rfl⟩
 have hbl:EA ys=Be la++Be lb++ys.flatMap (B1 la lb)++Bh (val la 256) (CI la 256):=by unfold EA;rw [hA,hB]
 rw [hA]at oka hla hT
 rw [hB]at okb hlb hT
 obtain ⟨Y,hYe⟩:∃Y,Bh (val la 256) (CI la 256)++Z=Y:=⟨_,rfl⟩
 obtain ⟨S,hS⟩:∃S,EA ys++Z=S:=⟨_,rfl⟩
 have hS1:S=[]++(Be la++(Be lb++(ys.flatMap (B1 la lb)++Y))):=by rw [←hS,hbl,←hYe];simp
 have hS2:S=Be la++(Be lb++(ys.flatMap (B1 la lb)++Y)):=by rw [hS1];rfl
 have hS3:S=(Be la++Be lb)++(ys.flatMap (B1 la lb)++Y):=by rw [hS2];simp
 have t1:=OD oka.2.2.1 oka.1 oka.2.1 [] (Be lb++(ys.flatMap (B1 la lb)++Y))
 rw [←hS1,zk,Nat.zero_add]at t1
 have t2:=OD okb.2.2.1 okb.1 okb.2.1 (Be la) (ys.flatMap (B1 la lb)++Y)
 rw [←hS2]at t2
 have hC:Df S 0=(0,la,lb,(Be la).length+(Be lb).length):=by
  unfold Df
  rw [t1]
  simp only
  rw [t2]
  simp only
  rw [if_neg (by omega),if_neg (by omega),if_neg (by omega),if_neg (by rintro (h | h);exact h (MH oka);exact h (MH okb))]
 have hg:=TF oka okb hla hlb Y (most:=most) ts hT (S.length+1) 0 [] (Be la++Be lb) (by
  have:∀l:List Sy,(∀y∈l,1≤(B1 la lb y).length)→l.length≤(l.flatMap (B1 la lb)).length:=by
   intro l
   induction l with
   | nil=>intro _;simp
   | cons y l ih=>
    intro h
    have h1:=h y zp
    have h2:=ih fun z hz=>h z (zq _ hz)
    rw [zt,z2,ze];omega
  have h1:=this ys fun y hy=>by
   rw [←hys]at hy
   obtain ⟨t,ht,rfl⟩:=List.mem_map.1 hy
   obtain ⟨_,_,g3,_⟩:=hT t ht
   have g:=hY (BH t) (by rw [←hys];exact List.mem_map_of_mem ht)
   unfold B1 Dn
   rw [z2,z2,Dp]
   have:CI la (BH t).a.num=la.getD (BH t).a.num.toNat 0:=by unfold CI;rw [if_neg (by omega)]
   omega
  have hyl:ys.length=ts.length:=by rw [←hys,z3]
  rw [hS3]
  simp only [z2]
  omega) hd h0 (by omega)
 rw [hys,←hS3]at hg
 rw [hS]
 unfold De
 rw [hC]
 simp only
 rw [if_neg (by omega),←z2,hg]
end Go.Bn
end

section
namespace Go.Bn
theorem ST:∀ {ts:List AW} {sz:Nat} {t:AW},GO sz ts→t.dist≤((sz+CQ ts:Nat):Int)→GO sz (ts++[t])
 | [],sz,t,_,h=>⟨by simpa [CQ]using h,trivial⟩
 | x::ts,sz,t,⟨h1,h2⟩,h=>by
  rw [OA]at h
  exact ⟨h1,ST h2 (by rw [show sz+x.size+CQ ts=sz+(x.size+CQ ts) by omega];exact h)⟩
theorem ed (ts:List AW) (t:AW):CQ (ts++[t])=CQ ts+t.size:=by simp [CQ]
structure I6 (ts:List AW):Prop where
  ok:∀t∈ts,t.right∧0≤t.byte∧t.byte<256
  dist:GO 0 ts
theorem I6.snoc {ts:List AW} {t:AW} (h:I6 ts) (h1:t.right) (h2:0≤t.byte∧t.byte<256) (h3:t.dist≤(CQ ts:Int)):I6 (ts++[t]):=
 ⟨fun x hx=>by
  rcases List.mem_append.1 hx with hx | hx
  ·exact h.ok x hx
  ·rw [zo]at hx;subst hx;exact ⟨h1,h2⟩,ST h.dist (by rw [Nat.zero_add];exact h3)⟩
theorem ZX (ts:List AW) (t:AW) (out:List UInt8):EC (ts++[t]) out=FM t (EC ts out):=by simp [EC]
theorem Sk:∀ {ts:List AW} (out:List UInt8),(∀t∈ts,t.right)→(EC ts out).length=out.length+CQ ts
 | [],out,_=>by simp [EC,CQ]
 | t::ts,out,h=>by
  have ih:=Sk (ts:=ts) (FM t out) fun x hx=>h x (zq _ hx)
  have h1:=Sl (h t zp) out
  rw [OA]
  show (EC ts (FM t out)).length=_
  omega
theorem TE {la lb:List Nat} {bs:List Bool} {most:Int} (oka:Bi la) (okb:Bi lb):∀ (f a sz:Nat) (acc:List AW),a≤bs.length→I6 acc→CQ acc=sz→(sz:Int)≤most→(FA la lb bs most f a sz acc).2.2.2=0→
  I6 (FA la lb bs most f a sz acc).1∧CQ (FA la lb bs most f a sz acc).1=(FA la lb bs most f a sz acc).2.1∧((FA la lb bs most f a sz acc).2.1:Int)≤most∧(FA la lb bs most f a sz acc).2.2.1≤bs.length∧(FA la lb bs most f a sz acc).1.length≤acc.length+f
 | 0,a,sz,acc,_,_,_,_,h=>by cases h
 | f+1,a,sz,acc,ha,hA,hs,hm,h=>by
  have hn:=UK (la:=la) (lb:=lb) (bs:=bs) (a:=a) oka okb ha
  revert h
  rw [FA]
  obtain ⟨N,hN⟩:∃N,Cy la lb bs a=N:=⟨_,rfl⟩
  rw [hN]at hn ⊢
  by_cases h1:N.2.2.1=true
  ·rw [if_pos h1]
   by_cases h2:N.2.2.2≠0
   ·rw [if_pos h2];intro h;exact absurd h h2
   ·rw [if_neg h2]
    intro _
    exact ⟨hA,hs,hm,hn.2.1,by simp⟩
  ·rw [if_neg h1]
   by_cases h2:(sz:Int)<N.1.dist
   ·rw [if_pos h2];intro h;cases h
   ·rw [if_neg h2]
    by_cases h3:most-sz<N.1.size
    ·rw [if_pos h3];intro h;cases h
    ·rw [if_neg h3]
     intro h
     obtain ⟨k1,_,k3,k4⟩:=hn.2.2 (by simpa using h1)
     obtain ⟨g1,g2,g3,g4,g5⟩:=TE oka okb f N.2.1 (sz+N.1.size) (acc++[N.1]) hn.2.1 (hA.snoc k3 k4 (by omega)) (by rw [ed];omega) (by omega) h
     refine ⟨g1,g2,g3,g4,?_⟩
     rw [z2,zm]at g5
     omega
theorem YT {bs:List Bool} {most:Int} (h0:0≤most) (h:(De bs most).2.2.2=0):I6 (De bs most).1∧CQ (De bs most).1=(De bs most).2.1∧((De bs most).2.1:Int)≤most∧(De bs most).2.2.1≤bs.length∧(De bs most).1.length≤bs.length+1:=by
 revert h
 unfold De
 by_cases hc:(Df bs 0).1≠0
 ·rw [if_pos hc];intro h;exact absurd h hc
 ·rw [if_neg hc]
  intro h
  obtain ⟨oka,okb,_,_⟩:=SF (bs:=bs) (a:=0) (by omega)
  have:=TE oka okb (bs.length+1) _ 0 [] (Yt (by omega)) ⟨by simp,trivial⟩ rfl (by omega) h
  simpa using this
noncomputable def Fu (mt:Int) (l:List UInt8) (size:Int):List UInt8×Nat:=
  if mt<0∨2<mt then ([],1)
  else if size<0∨65536<size then ([],5)
  else if mt=1 then
    if (De (AR l) size).2.2.2≠0 then ([],(De (AR l) size).2.2.2)
    else if ((De (AR l) size).2.1:Int)≠size then ([],5)
    else if 8≤(AR l).length - (De (AR l) size).2.2.1∨CB (AR l) (De (AR l) size).2.2.1 8≠0 then ([],3)
    else (EC (De (AR l) size).1 [],0)
  else if mt=2 then
    if (GV l).2≠0 then ([],(GV l).2.toNat)
    else if ((GV l).1.length:Int)≠size then ([],5)
    else ((GV l).1,0)
  else if (l.length:Int)≠size then ([],5)else (l,0)
end Go.Bn
end

section
namespace Go.Bn
open Go Proofs
@[reducible] def Bc (c:BQ):List Value:=[.int .i64 c.num,.int .i64 c.bits,.int .u32 c.ext]
@[reducible] def Ah (t:AW):List Value:=[.int .u8 t.byte,.int .i64 t.len,.int .i64 t.dist]
@[reducible] def CR (r:Sy):List Value:=[.int .i64 r.a.num,.int .i64 r.a.bits,.int .u32 r.a.ext,.int .i64 r.b.num,.int .i64 r.b.bits,.int .u32 r.b.ext,.bool r.m]
theorem GM (d:BQ):∀u∈Bc d,Value.one u=true:=by
 intro u hu;simp [Bc]at hu;rcases hu with rfl | rfl | rfl <;> rfl
theorem Co (d:AW):∀u∈Ah d,Value.one u=true:=by
 intro u hu;simp [Ah]at hu;rcases hu with rfl | rfl | rfl <;> rfl
theorem IS (d:Sy):∀u∈CR d,Value.one u=true:=by
 intro u hu;simp [CR]at hu;rcases hu with rfl | rfl | rfl | rfl | rfl | rfl | rfl <;> rfl
theorem ZT (a b:Sy):En (CR a) (CR b)=decide (a=b):=by
 obtain ⟨⟨_,_,_⟩,⟨_,_,_⟩,_⟩:=a
 obtain ⟨⟨_,_,_⟩,⟨_,_,_⟩,_⟩:=b
 rw [Bool.eq_iff_iff];simp [En,My,and_assoc]
def IB:List UInt8:=(List.range 256).map fun i=>UInt8.ofNat (DX i)
theorem Tl {i:Nat} (h:i<256):(ByteArray.mk IB.toArray)[i]? =some (UInt8.ofNat (DX i)):=by
 have hs:(ByteArray.mk IB.toArray).size=256:=by simp [ByteArray.size,IB]
 have:(ByteArray.mk IB.toArray)[i]? =IB[i]? :=by
  rw [getElem?_pos _ i (by rw [hs];exact h)]
  rw [z9 (by simp [IB];omega)]
  rfl
 rw [this]
 simp [IB,h]
theorem Tk {v k:Nat} (h:v<2^k):DX v≤k:=by
 unfold DX
 split
 ·omega
 ·rename_i h0;have:=(Nat.log2_lt h0).2 h;omega
theorem ac {v:Nat} (h:256≤v):8+DX (v/256)=DX v:=by
 have h1:v/256≠0:=by omega
 have h2:v≠0:=by omega
 unfold DX
 rw [if_neg h1,if_neg h2]
 have e:Nat.log2 (v/256)+8=Nat.log2 v:=by
  apply Eq.symm
  rw [Nat.log2_eq_iff h2]
  have a1:=Nat.log2_self_le h1
  have a2:v/256<2^(Nat.log2 (v/256)+1):=Nat.lt_log2_self
  have p1:2^(Nat.log2 (v/256)+8)=2^Nat.log2 (v/256)*256:=Nat.pow_add _ _ 8
  have p2:2^(Nat.log2 (v/256)+8+1)=2^(Nat.log2 (v/256)+1)*256:=by
   rw [show Nat.log2 (v/256)+8+1=(Nat.log2 (v/256)+1)+8 by omega];exact Nat.pow_add _ _ 8
  rw [p1,p2]
  constructor <;> omega
 omega
theorem aW {v:Nat} (hv:v<65536) (h0:AA):AG Tryz.prog 315 [.int .u64 (v:Int)] h0 fun r h'=>r= .int .i64 (DX v:Nat)∧h0=h':=by
 refine BE Tryz.func315 rfl fun _=>Aj ?_
 refine AT (.bool false) (congrArg Value.bool (zu (by omega))) (AP ?_)
 refine AT (.bool false) (congrArg Value.bool (zu (by omega))) (Aj ?_)
 refine AK rfl (fun h=> ?_) (fun h=> ?_)
 ·refine AF ?_
  first | refine AD (EK 8 rfl rfl (by decide)) rfl rfl ?_ | refine AD (Ez 8 rfl rfl (by decide)) rfl rfl ?_
  refine AJ ?_
  first | refine AD (CH (n:=8) rfl rfl (by simp only [AI];omega)) rfl rfl ?_ | refine AD (IF rfl rfl (by simp only [AI];omega)) rfl rfl ?_ | refine AD (IE rfl rfl) rfl rfl ?_
  refine AO ?_
  have hi:v/2^8<256:=by omega
  have hl:=Tk (v:=v/2^8) (k:=8) hi
  have hs:=ac (v:=v) (by omega)
  rw [show (256:Nat)=2^8 from rfl]at hs
  generalize v/2^8=u at*
  refine xa (Jf (s:=ByteArray.mk IB.toArray) (i:=u) (by kernel_rfl) rfl rfl (Tl hi)) ?_
  rw [show (UInt8.ofNat (DX u)).toNat=DX u by simp;omega]
  first | refine AD (Bj rfl rfl (by simp only [AI];omega)) rfl rfl ?_ | refine AD (Dm rfl rfl) rfl rfl ?_
  refine xa (CH (m:=8) (n:=DX u) rfl rfl (by simp only [AI];omega)) ?_
  rw [hs]
  refine AF ?_
  exact ⟨rfl,rfl⟩
 ·refine AL ?_
  have hl:=Tk (v:=v) (k:=8) (by omega)
  refine xa (Jf (s:=ByteArray.mk IB.toArray) (i:=v) (by kernel_rfl) rfl rfl (Tl (by omega))) ?_
  rw [show (UInt8.ofNat (DX v)).toNat=DX v by simp;omega]
  first | refine AD (Bj rfl rfl (by simp only [AI];omega)) rfl rfl ?_ | refine AD (Dm rfl rfl) rfl rfl ?_
  refine xa (CH (m:=0) (n:=DX v) rfl rfl (by simp only [AI];omega)) ?_
  refine AT (.int .i64 (DX v:Nat)) (by rw [Nat.zero_add]) (AF ?_)
  exact ⟨rfl,rfl⟩
theorem YN {v:Nat} (hv:v<65536) (h0:AA):AG Tryz.prog 290 [.int .u64 (v:Int)] h0 fun r h'=>r= .int .i64 (DX v:Nat)∧h0=h':=by
 refine BE Tryz.func290 rfl fun _=>BP ?_
 refine xk (aW hv _) rfl ?_
 rintro _ _ ⟨rfl,rfl⟩
 refine AF ?_
 exact ⟨rfl,rfl⟩
theorem WF {v:Int} (h0:AA):AG Tryz.prog 261 [.int .i64 v] h0 fun r h'=>r=Al [.agg (Bc (F5 v).1).toArray,.bool (F5 v).2]∧AV h0 h':=by
 refine BE Tryz.func261 rfl fun _=> ?_
 have st:=St.start h0
 refine AB ?_
 refine xn st fun pp1 hp st=>Aj ?_
 refine Am 8 rfl (fun h=> ?_) (fun h=> ?_)
 ·refine AP ?_
  refine xa (AZ (ps:=[]) (cs:=(Bc BQ.nil).toArray) rfl rfl) ?_
  refine xw (us:=Bc BQ.nil) st 0 (GM _) fun hp st=> ?_
  simp only [z0,z1]at st
  refine AB ?_
  refine Af (.cons (Ax (vs:=Bc BQ.nil) rfl rfl rfl (st.cells 0 rfl)) (.cons (.tmp rfl) .nil)) ?_
  have e:F5 v=(BQ.nil,false):=by unfold F5;rw [if_pos (by omega)]
  rw [e]
  exact ⟨rfl,st.low⟩
 ·refine AH ?_
  refine AK rfl (fun h=> ?_) (fun h=> ?_)
  ·refine AB ?_
   refine xa (AZ (ps:=[]) (cs:=(Bc BQ.nil).toArray) rfl rfl) ?_
   refine xw (us:=Bc BQ.nil) st 0 (GM _) fun hp st=> ?_
   simp only [z0,z1]at st
   refine AB ?_
   refine Af (.cons (Ax (vs:=Bc BQ.nil) rfl rfl rfl (st.cells 0 rfl)) (.cons (.tmp rfl) .nil)) ?_
   have e:F5 v=(BQ.nil,false):=by unfold F5;rw [if_pos (by omega)]
   rw [e]
   exact ⟨rfl,st.low⟩
  ·refine AL ?_
   refine AK rfl (fun h=> ?_) (fun h=> ?_)
   ·obtain ⟨x,rfl⟩:∃x:Nat,v=x:=⟨v.toNat,by omega⟩
    have e:F5 (x:Int)=(⟨x,0,0⟩,true):=by
     unfold F5;rw [if_neg (by omega),Int.toNat_natCast,aK (by omega)]
    rw [e]
    refine AF ?_
    refine xa (AZ (ps:=[(0,.int .i64 (x:Int))]) (cs:=(Bc ⟨x,0,0⟩).toArray) rfl rfl) ?_
    refine xw (us:=Bc ⟨x,0,0⟩) st 0 (GM _) fun hp st=> ?_
    simp only [z0,z1]at st
    refine AB ?_
    refine Af (.cons (Ax (vs:=Bc ⟨x,0,0⟩) rfl rfl rfl (st.cells 0 rfl)) (.cons (.tmp rfl) .nil)) ?_
    exact ⟨rfl,st.low⟩
   ·obtain ⟨x,rfl⟩:∃x:Nat,v=x:=⟨v.toNat,by omega⟩
    obtain ⟨n,q,hn,hn1,hq,hv,hc,hb,hbase,hsum⟩:=TY (v:=x) (by omega)
    have e:F5 (x:Int)=(⟨((2*n+q:Nat):Int),n,((x%2^n:Nat):Int)⟩,true):=by
     unfold F5;rw [if_neg (by omega),Int.toNat_natCast,aJ hc hb hbase hsum]
    rw [e]
    have hp2:2*2^n≤x:=by
     rcases hq with rfl | rfl <;> omega
    have hp0:=Iz n
    have hn14:n≤14:=by
     have:2^n<2^15:=by omega
     have:=(Nat.pow_lt_pow_iff_right (by omega:1<2)).1 this
     omega
    have hxm:=Nat.mod_lt x hp0
    refine AL ?_
    refine xk (YN (v:=x) (by omega) _) rfl ?_
    rintro _ _ ⟨rfl,rfl⟩
    rw [hn]
    refine xa (Bk (m:=n+2) (n:=2) rfl rfl (by omega) (by simp only [AI];omega)) ?_
    rw [Nat.add_sub_cancel]
    refine AH ?_
    first | refine AD (D0 (m:=2) rfl rfl (by simp only [AI];omega)) rfl rfl ?_ | refine AD (F8 rfl rfl (by simp only [AI];omega)) rfl rfl ?_ | refine AD (F7 rfl rfl) rfl rfl ?_
    refine AB ?_
    refine xa (EK (m:=x) n rfl rfl (by simp only [IntKind.bits];omega)) ?_
    rw [hv]
    refine AJ ?_
    refine xa (GT (m:=1) n rfl rfl (by simp only [IntKind.bits];omega) (by simp only [AI];omega)) ?_
    rw [Nat.one_mul]
    refine xa (Bk (m:=2^n) (n:=1) rfl rfl (by omega) (by simp only [AI];omega)) ?_
    refine xa (Pv (m:=x) (n:=2^n-1) rfl rfl (by simp only [AI];omega) (by simp only [AI];omega)) ?_
    rw [Nat.and_two_pow_sub_one_eq_mod]
    generalize x%2^n=y at*
    refine AC ?_
    refine xa (AZ (ps:=[(0,.int .i64 ((2*n+q:Nat):Int)),(1,.int .i64 (n:Int)),(2,.int .u32 (y:Int))]) (cs:=(Bc ⟨((2*n+q:Nat):Int),n,(y:Int)⟩).toArray) rfl rfl) ?_
    refine xw (us:=Bc ⟨((2*n+q:Nat):Int),n,(y:Int)⟩) st 0 (GM _) fun hp st=> ?_
    simp only [z0,z1]at st
    refine AB ?_
    refine Af (.cons (Ax (vs:=Bc ⟨((2*n+q:Nat):Int),n,(y:Int)⟩) rfl rfl rfl (st.cells 0 rfl)) (.cons (.tmp rfl) .nil)) ?_
    exact ⟨rfl,st.low⟩
def Fd (i:Int):Int×Int×Bool:=if i<0∨30≤i then (0,0,false)else (CY i.toNat,BO i.toNat,true)
theorem YE {i:Nat} (h:i<30):BO i≤13:=by unfold BO;split <;> omega
theorem VS {k:Nat} (h:k≤13):2^k≤8192:=Nat.pow_le_pow_right (by omega) h
theorem Vw (v:Int) (h0:AA):AG Tryz.prog 286 [.int .i64 v] h0 fun r h'=>r=Al [.int .i64 (Fd v).1,.int .i64 (Fd v).2.1,.bool (Fd v).2.2]∧h0=h':=by
 refine BE Tryz.func286 rfl fun _=>B3 ?_
 refine Am 9 rfl (fun h=> ?_) (fun h=> ?_)
 ·refine B3 ?_
  have e:Fd v=(0,0,false):=by unfold Fd;rw [if_pos (by omega)]
  rw [e]
  exact ⟨rfl,rfl⟩
 ·refine AH ?_
  refine AK rfl (fun h=> ?_) (fun h=> ?_)
  ·refine AO ?_
   have e:Fd v=(0,0,false):=by unfold Fd;rw [if_pos (by omega)]
   rw [e]
   exact ⟨rfl,rfl⟩
  ·refine AL ?_
   refine AK rfl (fun h=> ?_) (fun h=> ?_)
   ·obtain ⟨x,rfl⟩:∃x:Nat,v=x:=⟨v.toNat,by omega⟩
    have e:Fd (x:Int)=((x:Int),0,true):=by
     unfold Fd;rw [if_neg (by omega),Int.toNat_natCast,Mh _ (by omega)]
     unfold BO;rw [if_pos (by omega)];rfl
    rw [e]
    refine AP ?_
    exact ⟨rfl,rfl⟩
   ·obtain ⟨x,rfl⟩:∃x:Nat,v=x:=⟨v.toNat,by omega⟩
    have e:Fd (x:Int)=((((2+x%2)*2^(x/2-1):Nat):Int),((x/2-1:Nat):Int),true):=by
     unfold Fd;rw [if_neg (by omega),Int.toNat_natCast,Rp _ (by omega)]
     unfold BO;rw [if_neg (by omega)]
    rw [e]
    have hk:x/2-1≤13:=by omega
    have hp:=VS hk
    refine AH ?_
    first | refine AD (KY (n:=2) rfl rfl (by omega) (by simp only [AI];omega)) rfl rfl ?_ | refine AD (Nd rfl rfl (by omega) (by omega) (by simp only [AI];omega)) rfl rfl ?_ | refine AD (Nc rfl rfl (by omega)) rfl rfl ?_
    refine xa (Bk (m:=x/2) (n:=1) rfl rfl (by omega) (by simp only [AI];omega)) ?_
    have hx2:2+x%2≤3:=by omega
    generalize x/2-1=k at*
    refine AH ?_
    first | refine AD (Nh (n:=2) rfl rfl (by omega)) rfl rfl ?_ | refine AD (Ng rfl rfl (by omega) (by omega)) rfl rfl ?_ | refine AD (Nf rfl rfl (by omega)) rfl rfl ?_
    first | refine AD (CH (m:=2) rfl rfl (by simp only [AI];omega)) rfl rfl ?_ | refine AD (IF rfl rfl (by simp only [AI];omega)) rfl rfl ?_ | refine AD (IE rfl rfl) rfl rfl ?_
    refine AC ?_
    have hb:(2+x%2)*2^k≤3*8192:=Nat.mul_le_mul hx2 hp
    refine xa (GT (m:=2+x%2) k rfl rfl (by simp only [IntKind.bits];omega) (by simp only [AI];omega)) (AL ?_)
    exact ⟨rfl,rfl⟩
theorem Vx {v:Int} {i:Nat} (hi:v=i) (h:i<30) (h0:AA):AG Tryz.prog 286 [.int .i64 v] h0 fun r h'=>r=Al [.int .i64 (CY i:Nat),.int .i64 (BO i:Nat),.bool true]∧h0=h':=by
 have e:=Vw v h0
 rw [show Fd v=((CY i:Int),(BO i:Int),true) by unfold Fd;rw [if_neg (by omega),hi,Int.toNat_natCast]]at e
 exact e
theorem eN {v:Int} (h:v<0∨30≤v) (h0:AA):AG Tryz.prog 286 [.int .i64 v] h0 fun r h'=>r=Al [.int .i64 0,.int .i64 0,.bool false]∧h0=h':=by
 have e:=Vw v h0
 rw [show Fd v=(0,0,false) by unfold Fd;rw [if_pos h]]at e
 exact e
def E4 (c:BQ):Int×Bool:=match Ek c with
  | some v=>((v:Int),true)
  | none=>(0,false)
theorem gQ {c:BQ} {v:Nat} (h:Ek c=some v):E4 c=((v:Int),true):=by unfold E4;rw [h]
theorem Q4 {c:BQ} (h:Ek c=none):E4 c=(0,false):=by unfold E4;rw [h]
theorem gL {c:BQ} (h:c.num<0∨30≤c.num):Ek c=none:=by unfold Ek;rw [if_pos h]
theorem gM {c:BQ} {i:Nat} (hi:c.num=i) (h:c.bits≠BO i):Ek c=none:=by
 unfold Ek
 split
 ·rfl
 ·rw [if_pos (by rw [hi];exact h)]
theorem gN {c:BQ} {i e:Nat} (hi:c.num=i) (he:c.ext=e) (h:2^BO i≤e):Ek c=none:=by
 unfold Ek
 split
 ·rfl
 ·split
  ·rfl
  ·have hp:((2^BO i:Nat):Int)=(2:Int)^BO i:=by rw [Int.natCast_pow];rfl
   rw [if_pos (by rw [hi,he,Int.toNat_natCast,←hp];omega)]
theorem gP {c:BQ} {i e:Nat} (hi:c.num=i) (h30:i<30) (hb:c.bits=BO i) (he:c.ext=e) (h:e<2^BO i):Ek c=some (CY i+e):=by
 have hp:((2^BO i:Nat):Int)=(2:Int)^BO i:=by rw [Int.natCast_pow];rfl
 unfold Ek
 rw [if_neg (by omega),hi,Int.toNat_natCast,if_neg (by rw [hb];simp),if_neg (by rw [he,←hp];omega),he,Int.toNat_natCast]
theorem X9 {i:Nat} (h:i<30):CY i+2^BO i≤32768:=by
 have:=K4 (show i+1≤30 by omega)
 rw [CY,show CY 30=32768 by decide]at this
 exact this
theorem WZ {c:BQ} (hx:0≤c.ext∧c.ext<4294967296) (h0:AA):AG Tryz.prog 313 [.agg #[.int .i64 c.num,.int .i64 c.bits,.int .u32 c.ext]] h0 fun r h'=>r=Al [.int .i64 (E4 c).1,.bool (E4 c).2]∧AV h0 h':=by
 refine BE Tryz.func313 rfl fun _=> ?_
 have st:=St.start h0
 refine AB ?_
 refine xv (Bv rfl rfl) ?_
 rintro _ hp ⟨p,rfl,hnew⟩
 have st:=st.new hnew
 refine AL ?_
 by_cases hr:c.num<0∨30≤c.num
 ·refine xe ?_
  refine xk (eN hr _) rfl ?_
  rintro _ _ ⟨rfl,rfl⟩
  refine RI ?_
  rw [Q4 (gL hr)]
  exact ⟨rfl,st.low⟩
 ·obtain ⟨i,hi⟩:∃i:Nat,c.num=i:=⟨c.num.toNat,by omega⟩
  obtain ⟨e,he⟩:∃e:Nat,c.ext=e:=⟨c.ext.toNat,by omega⟩
  have h30:i<30:=by omega
  have hk:=YE h30
  have hp:=VS hk
  have hp0:=Iz (BO i)
  have hbase:=X9 h30
  refine xe ?_
  refine xk (Vx hi h30 _) rfl ?_
  rintro _ _ ⟨rfl,rfl⟩
  refine Bb ?_
  refine xe ?_
  refine AF ?_
  refine Am 22 rfl (fun h=> ?_) (fun h=> ?_)
  ·refine Bq ?_
   rw [Q4 (gM hi (fun hh=>h (by rw [hh])))]
   exact ⟨rfl,st.low⟩
  ·refine AC ?_
   refine xe ?_
   refine AC ?_
   rw [he]
   refine xa (Py (m:=e) (BO i) rfl rfl (by simp only [IntKind.bits];omega)) (AF ?_)
   refine AK rfl (fun h=> ?_) (fun h=> ?_)
   ·have hge:2^BO i≤e:=by
     rcases Nat.lt_or_ge e (2^BO i)with hlt | hge
     ·exact absurd (by rw [Nat.div_eq_of_lt hlt];rfl) h
     ·exact hge
    refine AL ?_
    rw [Q4 (gN hi he hge)]
    exact ⟨rfl,st.low⟩
   ·have hlt:e<2^BO i:=by
     rcases Nat.lt_or_ge e (2^BO i)with hlt | hge
     ·exact hlt
     ·have:0<e/2^BO i:=Nat.div_pos hge hp0
      omega
    have hbb:c.bits=BO i:=by omega
    rw [gQ (gP hi h30 hbb he hlt)]
    refine AH ?_
    refine xc st 0 2 ?_
    first | refine AD (Bj rfl rfl (by simp only [AI];omega)) rfl rfl ?_ | refine AD (Dm rfl rfl) rfl rfl ?_
    refine AT (.int .i64 (e:Int)) (by rw [he]) (AH ?_)
    exact ⟨rfl,st.low⟩
end Go.Bn
end

section
namespace Go.Bn
open Go Proofs
theorem Wk (a b c:Int) (h0:AA):AG Tryz.prog 259 [.int .i64 a,.int .i64 b,.int .i64 c] h0 fun r h'=>r= .bool (decide (b≤a∧a≤c))∧h0=h':=by
 refine Bg Tryz.func259 rfl fun _=>BP ?_
 refine Am 10 rfl (fun h=> ?_) (fun h=> ?_)
 ·refine AO ?_
  first
   | exact ⟨congrArg Value.bool (zu (by omega)).symm,rfl⟩
   | exact ⟨congrArg Value.bool (decide_eq_decide.2 ⟨fun hh=>by omega,fun hh=>by omega⟩),rfl⟩
 ·refine AO ?_
  first
   | exact ⟨congrArg Value.bool (zu (by omega)).symm,rfl⟩
   | exact ⟨congrArg Value.bool (decide_eq_decide.2 ⟨fun hh=>by omega,fun hh=>by omega⟩),rfl⟩
theorem Qy (t:AW) (h0:AA):AG Tryz.prog 229 [.agg #[.int .u8 t.byte,.int .i64 t.len,.int .i64 t.dist]] h0 fun r h'=>r= .bool (decide t.right)∧AV h0 h':=by
 refine BE Tryz.func229 rfl fun _=> ?_
 have st:=St.start h0
 unfold AW.right
 refine AB ?_
 refine xv (Bv rfl rfl) ?_
 rintro _ hp ⟨p,rfl,hnew⟩
 have st:=st.new hnew
 refine AL ?_
 refine xc st 0 1 ?_
 refine AB ?_
 refine AK rfl (fun h=> ?_) (fun h=> ?_)
 ·refine AF ?_
  refine xc st 0 2 ?_
  refine AJ ?_
  refine ⟨congrArg Value.bool (decide_eq_decide.2 ?_),st.low⟩
  rw [if_pos h]
 ·have hlen:=h
  refine AJ ?_
  refine xc st 0 0 ?_
  refine AB ?_
  refine Am 12 rfl (fun h=> ?_) (fun h=> ?_)
  ·refine AC ?_
   refine xc st 0 1 ?_
   refine xk (Wk _ _ _ _) rfl ?_
   rintro _ _ ⟨rfl,rfl⟩
   refine AB ?_
   refine Am 17 rfl (fun h=> ?_) (fun h=> ?_)
   ·refine AC ?_
    refine xc st 0 2 ?_
    refine xk (Wk _ _ _ _) rfl ?_
    rintro _ _ ⟨rfl,rfl⟩
    refine AJ ?_
    refine ⟨congrArg Value.bool (decide_eq_decide.2 ?_),st.low⟩
    rw [if_neg hlen]
    rename_i hb
    exact ⟨fun hh=>⟨hb,h.1,h.2,hh.1,hh.2⟩,fun hh=>⟨hh.2.2.2.1,hh.2.2.2.2⟩⟩
   ·refine AO ?_
    refine ⟨congrArg Value.bool (zu ?_).symm,st.low⟩
    rw [if_neg hlen]
    rintro ⟨h1,h2,h3,h4⟩;exact h ⟨h2,h3⟩
  ·refine By ?_
   refine ⟨congrArg Value.bool (zu ?_).symm,st.low⟩
   rw [if_neg hlen]
   rintro ⟨h1,_⟩;exact h h1
theorem fJ {t:AW} (hb:0≤t.byte∧t.byte<256) (h0:AA):AG Tryz.prog 234 [.agg #[.int .u8 t.byte,.int .i64 t.len,.int .i64 t.dist]] h0 fun r h'=>r=Al [.agg (CR (Iw t).1).toArray,.bool (Iw t).2]∧AV h0 h':=by
 refine BE Tryz.func234 rfl fun _=> ?_
 have st:=St.start h0
 refine AB ?_
 refine xv (Bv rfl rfl) ?_
 rintro _ hp ⟨p,rfl,hnew⟩
 have st:=st.new hnew
 refine xn st fun pp1 hp st=>AH ?_
 refine xa (Ai (st.cells 1 rfl) rfl rfl rfl rfl) ?_
 refine xk (Qy t _) rfl ?_
 rintro _ hp ⟨rfl,hx⟩
 replace st:=st.ext hx
 refine AB ?_
 refine AK rfl (fun h=> ?_) (fun h=> ?_)
 ·refine AB ?_
  refine xa (AZ (ps:=[]) (cs:=(CR Sy.nil).toArray) rfl rfl) ?_
  refine xw (us:=CR Sy.nil) st 0 (IS _) fun hp st=> ?_
  simp only [z0,z1]at st
  refine AB ?_
  refine Af (.cons (Ax (vs:=CR Sy.nil) rfl rfl rfl (st.cells 0 rfl)) (.cons (.tmp rfl) .nil)) ?_
  have e:Iw t=(Sy.nil,false):=by unfold Iw;rw [if_neg h]
  rw [e]
  exact ⟨rfl,st.low⟩
 ·have hr:=Decidable.not_not.1 h
  have e:Iw t=(BH t,true):=by unfold Iw;rw [if_pos hr]
  rw [e]
  refine AH ?_
  refine xc st 1 1 ?_
  refine AB ?_
  refine AK rfl (fun h=> ?_) (fun h=> ?_)
  ·have e1:BH t=⟨⟨t.byte,0,0⟩,BQ.nil,false⟩:=by unfold BH;rw [if_pos h]
   rw [e1]
   refine AF ?_
   refine xc st 1 0 ?_
   refine xa (Dm rfl rfl) ?_
   refine AT (.int .i64 t.byte) (by rw [G4 (by simp only [AI];omega)]) ?_
   refine xa (AZ (ps:=[(0,.int .i64 t.byte)]) (cs:=(Bc ⟨t.byte,0,0⟩).toArray) rfl rfl) ?_
   refine xa (AZ (ps:=[(0,.agg (Bc ⟨t.byte,0,0⟩).toArray)]) (cs:=(CR ⟨⟨t.byte,0,0⟩,BQ.nil,false⟩).toArray) rfl rfl) ?_
   refine xw (us:=CR ⟨⟨t.byte,0,0⟩,BQ.nil,false⟩) st 0 (IS _) fun hp st=> ?_
   simp only [z0,z1]at st
   refine AB ?_
   refine Af (.cons (Ax (vs:=CR ⟨⟨t.byte,0,0⟩,BQ.nil,false⟩) rfl rfl rfl (st.cells 0 rfl)) (.cons (.tmp rfl) .nil)) ?_
   exact ⟨rfl,st.low⟩
  ·have hr':=hr
   unfold AW.right at hr'
   rw [if_neg h]at hr'
   obtain ⟨r1,r2,r3,r4,r5⟩:=hr'
   have e1:BH t=⟨⟨(CG (t.len-3).toNat).num+257,(CG (t.len-3).toNat).bits,(CG (t.len-3).toNat).ext⟩,CG (t.dist-1).toNat,true⟩:=by unfold BH;rw [if_neg h]
   have o1:F5 (t.len-3)=(CG (t.len-3).toNat,true):=by unfold F5;rw [if_neg (by omega)]
   have o2:F5 (t.dist-1)=(CG (t.dist-1).toNat,true):=by unfold F5;rw [if_neg (by omega)]
   have k1:=PR (v:=(t.len-3).toNat) (by omega)
   have n1:(CG (t.len-3).toNat).num=CW (t.len-3).toNat:=rfl
   rw [e1]
   refine AJ ?_
   refine xc st 1 1 ?_
   refine xa (EU rfl rfl (by simp only [AI];omega)) ?_
   refine xk (WF _) rfl ?_
   rintro _ hp ⟨rfl,hx⟩
   replace st:=st.ext hx
   rw [o1]
   generalize CG (t.len-3).toNat=a at*
   generalize CG (t.dist-1).toNat=b at*
   refine AF ?_
   refine xn st fun pp2 hp st=> ?_
   refine xw (us:=Bc a) st 0 (GM _) fun hp st=> ?_
   simp only [z0,z1]at st
   refine AH ?_
   refine xc st 2 2 ?_
   refine xa (EU rfl rfl (by simp only [AI];omega)) ?_
   refine xk (WF _) rfl ?_
   rintro _ hp ⟨rfl,hx⟩
   replace st:=st.ext hx
   rw [o2]
   refine AF ?_
   refine xn st fun pp3 hp st=> ?_
   refine xw (us:=Bc b) st 0 (GM _) fun hp st=> ?_
   simp only [z0,z1]at st
   refine AH ?_
   refine xc st 1 0 ?_
   refine AB ?_
   refine xj st 1 fun hp st=> ?_
   simp only [z0,z1]at st
   refine AF ?_
   refine xa (Ai (vs:=Bc ⟨a.num+257,a.bits,a.ext⟩) (st.cells 1 rfl) rfl rfl rfl rfl) ?_
   refine xa (Ai (vs:=Bc b) (st.cells 0 rfl) rfl rfl rfl rfl) ?_
   refine xa (AZ (ps:=[(0,.agg (Bc ⟨a.num+257,a.bits,a.ext⟩).toArray),(1,.agg (Bc b).toArray),(2,.bool true)]) (cs:=(CR ⟨⟨a.num+257,a.bits,a.ext⟩,b,true⟩).toArray) rfl rfl) ?_
   refine xw (us:=CR ⟨⟨a.num+257,a.bits,a.ext⟩,b,true⟩) st 2 (IS _) fun hp st=> ?_
   simp only [z0,z1]at st
   refine AB ?_
   refine Af (.cons (Ax (vs:=CR ⟨⟨a.num+257,a.bits,a.ext⟩,b,true⟩) rfl rfl rfl (st.cells 2 rfl)) (.cons (.tmp rfl) .nil)) ?_
   exact ⟨rfl,st.low⟩
end Go.Bn
end

section
namespace Go.Bn
open Go Proofs
theorem fo {sz:Nat} {ts:List AW} {i:Nat} (hi:i<ts.length) (hd:GO sz (ts.drop i)):ts[i].dist≤sz∧GO (sz+ts[i].size) (ts.drop (i+1)):=by
 rw [List.drop_eq_getElem_cons hi]at hd
 exact hd
theorem ee {ts:List AW} {i:Nat} (hi:i<ts.length):CQ (ts.drop i)=ts[i].size+CQ (ts.drop (i+1)):=by
 rw [List.drop_eq_getElem_cons hi,OA]
theorem ZY {ts:List AW} {i:Nat} (hi:i<ts.length):EC (ts.take (i+1)) []=FM ts[i] (EC (ts.take i) []):=by
 rw [List.take_succ_eq_append_getElem hi,ZX]
theorem SL {L k D:Nat} {out:List UInt8} (h:k<L):Fe (L-k) D out=Fe (L - (k+1)) D (out++[out.getD (out.length-D) 0]):=by
 obtain ⟨j,hj⟩:∃j,L-k=j+1:=⟨L-k-1,by omega⟩
 rw [hj,Fe,show L - (k+1)=j by omega]
theorem fj {n c most:Nat} {A:Option Addr} {ts:List AW} {h0:AA} (hr:Rd h0 A (ts.flatMap Ah)) (hl:ts.length=n) (hn:n≤1099511627776) (hk:I6 ts) (hm:CQ ts≤most) (hmb:most≤1048576):
  AG Tryz.prog 191 [.slice A n c,nV most] h0 fun v h'=>∃w,v=Al [w,nV 0]∧St h0.size h0 h' [row 5 1 w ((EC ts []).map AN)]:=by
 refine Ac Tryz.func191 rfl fun _=> ?_
 have st:=(St.start h0).nilrow 5 1
 refine EY ?_
 refine BD (fun s=>n-s.1) (fun s=>[(1,nV most),(6,s.2),(10,.slice A n c),(11,nV n),(12,nV s.1)])
  (fun (s:Nat×Value) hp=>s.1≤n∧GO (EC (ts.take s.1) []).length (ts.drop s.1)∧(EC (ts.take s.1) []).length+CQ (ts.drop s.1)≤most∧St h0.size h0 hp [row 5 1 s.2 ((EC (ts.take s.1) []).map AN)])
  (0,_) (CP rfl rfl rfl rfl rfl) ⟨Nat.zero_le _,hk.dist,by simp only [List.take_zero,List.drop_zero];show 0+CQ ts≤most;omega,st⟩ ?_
 clear st
 rintro ⟨i,v⟩ hp ⟨hi,hd,hs,st⟩
 simp only at hi hd hs st ⊢
 obtain ⟨A6,n6,c6,rfl,hl6,_⟩:=st.row 0 rfl
 rw [z3,zf]at hl6
 refine AH ?_
 refine AK rfl (fun h=> ?_) (fun h=> ?_)
 ·have hil:i<ts.length:=by omega
  have hex:=ZY hil
  obtain ⟨hd1,hd2⟩:=fo hil hd
  rw [ee hil]at hs
  obtain ⟨hx1,hx2⟩:=hk.ok _ (List.getElem_mem hil)
  obtain ⟨g1,og,rfl,hc1⟩:=Rd.flat Ah 3 (hr.ext st.low) (fun _=>rfl) (by omega) (by omega)
  have hcx:=hc1 i hil
  obtain ⟨x,hx⟩:∃x,ts[i]=x:=⟨_,rfl⟩
  rw [hx]at hcx hex hd1 hd2 hs hx1 hx2
  have hxs:=AW.size_le hx1
  have hxl:=Sl hx1 (EC (ts.take i) [])
  obtain ⟨out,hout⟩:∃out,EC (ts.take i) []=out:=⟨_,rfl⟩
  rw [hout]at st hex hd1 hd2 hs hl6 hxl
  have hxr:=hx1
  unfold AW.right at hxr
  have hx0:0≤x.len∧0≤x.dist:=by split at hxr <;> omega
  refine AH ?_
  refine xa (Bp (i:=i) rfl rfl rfl (by omega)) ?_
  refine xa (Ai (vs:=Ah x) hcx rfl rfl rfl rfl) ?_
  refine xn st fun p8 hp st=> ?_
  refine xw (us:=Ah x) st 0 (Co x) fun hp st=> ?_
  simp only [z0]at st
  refine AH ?_
  refine xa (Ai (vs:=Ah x) (st.cells 0 rfl) rfl rfl rfl rfl) ?_
  refine xk (Qy x _) rfl ?_
  rintro _ hp2 ⟨rfl,hx2'⟩
  replace st:=st.ext hx2'
  rw [decide_eq_true hx1]
  refine xa (Bm rfl) ?_
  refine AT (.bool false) rfl (AB ?_)
  refine xc st 0 2 ?_
  refine AF ?_
  refine AT (.bool false) (congrArg Value.bool (zu (by omega))) (AO ?_)
  refine xc st 0 1 ?_
  refine AJ ?_
  refine xa (Bk (m:=most) (n:=n6) rfl rfl (by omega) (by simp only [AI];omega)) (AC ?_)
  refine AT (.bool false) (congrArg Value.bool (zu (by omega))) (AL ?_)
  refine xc st 0 1 ?_
  refine AF ?_
  refine AK rfl (fun h=> ?_) (fun h=> ?_)
  ·have hE:FM x out=Fe x.len.toNat x.dist.toNat (out++[UInt8.ofNat x.byte.toNat]):=by
    unfold FM;rw [if_pos h,h];rfl
   refine AF ?_
   refine xc st 0 0 ?_
   refine AT (AN (UInt8.ofNat x.byte.toNat)) (congrArg (Value.int .u8) (by rw [UInt8.toNat_ofNat'];omega)) ?_
   refine xv (Ep (v:=AN (UInt8.ofNat x.byte.toNat)) rfl rfl rfl) ?_
   rintro _ hp ⟨Aq,rfl,hxq,hrq⟩
   replace st:=st.ext hxq
   refine BN (BY st 1 rfl (hrq) (rfl) (Dl [_]) (by simp;omega) rfl rfl rfl rfl rfl rfl rfl) rfl rfl rfl fun v hp st=> ?_
   simp only [z0,z1]at st
   rw [show out.map AN++[AN (UInt8.ofNat x.byte.toNat)]=(out++[UInt8.ofNat x.byte.toNat]).map AN by rw [List.map_append];rfl]at st
   obtain ⟨o1,ho1⟩:∃o1,out++[UInt8.ofNat x.byte.toNat]=o1:=⟨_,rfl⟩
   rw [ho1]at hE st
   have ho1l:0<x.len.toNat→(x.dist.toNat≤o1.length∧1≤x.dist.toNat):=fun hh=>absurd hh (by omega)
   have hol:o1.length≤1048576:=by rw [←ho1,z2,zm];omega
   refine AL ?_
   refine xc st 0 1 ?_
   refine AT (nV x.len.toNat) (congrArg (Value.int .i64) (by omega)) (AF ?_)
   refine BD (fun s=>x.len.toNat-s.1) (fun s=>[(1,nV most),(6,s.2.2),(8,.pointer (some ⟨p8,0,none⟩)),(10,.slice (some ⟨g1,og,none⟩) n c),(11,nV n),(12,nV i),(46,nV x.len.toNat),(47,nV s.1)])
    (fun (s:Nat×List UInt8×Value) hp=>s.1≤x.len.toNat∧Fe (x.len.toNat-s.1) x.dist.toNat s.2.1=FM x out∧s.2.1.length=o1.length+s.1∧St h0.size h0 hp [pt p8 290 (Ah x),row 5 1 s.2.2 (s.2.1.map AN)])
    (0,o1,_) (FF rfl rfl rfl rfl rfl rfl rfl rfl) ⟨Nat.zero_le _,hE.symm,rfl,st⟩ ?_
   clear st
   rintro ⟨k,o2,v2⟩ hp ⟨hk1,hk2,hk3,st⟩
   simp only at hk1 hk2 hk3 st ⊢
   obtain ⟨A7,n7,c7,rfl,hl7,_,_,hr7⟩:=st.row 1 rfl
   rw [z3,zf]at hl7
   subst hl7
   refine AH ?_
   refine AK rfl (fun h=> ?_) (fun h=> ?_)
   ·have hkL:k<x.len.toNat:=by omega
    obtain ⟨hD1,hD2⟩:=ho1l (by omega)
    rw [SL hkL]at hk2
    obtain ⟨g7,o7,rfl,hc7⟩:=hr7.at_ (by rw [z3];omega)
    have hci:=hc7 (o2.length-x.dist.toNat) (AN (o2.getD (o2.length-x.dist.toNat) 0)) (by rw [zr,z9 (by omega),GR (by omega)];rfl)
    refine Aj ?_
    refine xc st 0 2 ?_
    refine xa (EU rfl rfl (by simp only [AI];omega)) ?_
    refine AT (nV (o2.length-x.dist.toNat)) (congrArg (Value.int .i64) (by omega)) ?_
    refine xa (C0 (i:=o2.length-x.dist.toNat) rfl rfl rfl (by omega)) ?_
    refine xl (hci) rfl (AH ?_)
    refine xv (Ep (v:=AN (o2.getD (o2.length-x.dist.toNat) 0)) rfl rfl rfl) ?_
    rintro _ hp ⟨Aq,rfl,hxq,hrq⟩
    replace st:=st.ext hxq
    refine BN (BY st 1 rfl (hrq) (rfl) (Dl [_]) (by simp;omega) rfl rfl rfl rfl rfl rfl rfl) rfl rfl rfl fun v hp st=> ?_
    simp only [z0,z1]at st
    rw [show o2.map AN++[AN (o2.getD (o2.length-x.dist.toNat) 0)]=(o2++[o2.getD (o2.length-x.dist.toNat) 0]).map AN by rw [List.map_append];rfl]at st
    refine AO ?_
    exact Ad (k+1,_,_) (FF rfl rfl rfl rfl rfl rfl rfl rfl) ⟨by simp only;omega,hk2,by simp only [z2,zm];omega,st⟩ (by simp only;omega)
   ·rw [show x.len.toNat-k=0 by omega,Fe]at hk2
    rw [show o2.map AN=(EC (ts.take (i+1)) []).map AN by rw [hk2,hex]]at st
    refine AL ?_
    refine Ad (i+1,_) (CP rfl rfl rfl rfl rfl) ⟨by simp only;omega,?_,?_,st.tail⟩ (by simp only;omega)
    ·simp only;rw [hex,hxl];exact hd2
    ·simp only;rw [hex,hxl];omega
  ·obtain ⟨o1,ho1⟩:∃o1,out=o1:=⟨_,rfl⟩
   have hE:FM x out=Fe x.len.toNat x.dist.toNat o1:=by rw [←ho1];unfold FM;rw [if_neg h]
   have ho1l:0<x.len.toNat→(x.dist.toNat≤o1.length∧1≤x.dist.toNat):=fun _=>by
    rw [if_neg h]at hxr
    rw [←ho1];omega
   rw [ho1]at st hl6
   have hol:o1.length≤1048576:=by rw [←ho1];omega
   refine AH ?_
   refine xc st 0 1 ?_
   refine AT (nV x.len.toNat) (congrArg (Value.int .i64) (by omega)) (AF ?_)
   refine BD (fun s=>x.len.toNat-s.1) (fun s=>[(1,nV most),(6,s.2.2),(8,.pointer (some ⟨p8,0,none⟩)),(10,.slice (some ⟨g1,og,none⟩) n c),(11,nV n),(12,nV i),(46,nV x.len.toNat),(47,nV s.1)])
    (fun (s:Nat×List UInt8×Value) hp=>s.1≤x.len.toNat∧Fe (x.len.toNat-s.1) x.dist.toNat s.2.1=FM x out∧s.2.1.length=o1.length+s.1∧St h0.size h0 hp [pt p8 290 (Ah x),row 5 1 s.2.2 (s.2.1.map AN)])
    (0,o1,_) (FF rfl rfl rfl rfl rfl rfl rfl rfl) ⟨Nat.zero_le _,hE.symm,rfl,st⟩ ?_
   clear st
   rintro ⟨k,o2,v2⟩ hp ⟨hk1,hk2,hk3,st⟩
   simp only at hk1 hk2 hk3 st ⊢
   obtain ⟨A7,n7,c7,rfl,hl7,_,_,hr7⟩:=st.row 1 rfl
   rw [z3,zf]at hl7
   subst hl7
   refine AH ?_
   refine AK rfl (fun h=> ?_) (fun h=> ?_)
   ·have hkL:k<x.len.toNat:=by omega
    obtain ⟨hD1,hD2⟩:=ho1l (by omega)
    rw [SL hkL]at hk2
    obtain ⟨g7,o7,rfl,hc7⟩:=hr7.at_ (by rw [z3];omega)
    have hci:=hc7 (o2.length-x.dist.toNat) (AN (o2.getD (o2.length-x.dist.toNat) 0)) (by rw [zr,z9 (by omega),GR (by omega)];rfl)
    refine Aj ?_
    refine xc st 0 2 ?_
    refine xa (EU rfl rfl (by simp only [AI];omega)) ?_
    refine AT (nV (o2.length-x.dist.toNat)) (congrArg (Value.int .i64) (by omega)) ?_
    refine xa (C0 (i:=o2.length-x.dist.toNat) rfl rfl rfl (by omega)) ?_
    refine xl (hci) rfl (AH ?_)
    refine xv (Ep (v:=AN (o2.getD (o2.length-x.dist.toNat) 0)) rfl rfl rfl) ?_
    rintro _ hp ⟨Aq,rfl,hxq,hrq⟩
    replace st:=st.ext hxq
    refine BN (BY st 1 rfl (hrq) (rfl) (Dl [_]) (by simp;omega) rfl rfl rfl rfl rfl rfl rfl) rfl rfl rfl fun v hp st=> ?_
    simp only [z0,z1]at st
    rw [show o2.map AN++[AN (o2.getD (o2.length-x.dist.toNat) 0)]=(o2++[o2.getD (o2.length-x.dist.toNat) 0]).map AN by rw [List.map_append];rfl]at st
    refine AO ?_
    exact Ad (k+1,_,_) (FF rfl rfl rfl rfl rfl rfl rfl rfl) ⟨by simp only;omega,hk2,by simp only [z2,zm];omega,st⟩ (by simp only;omega)
   ·rw [show x.len.toNat-k=0 by omega,Fe]at hk2
    rw [show o2.map AN=(EC (ts.take (i+1)) []).map AN by rw [hk2,hex]]at st
    refine AL ?_
    refine Ad (i+1,_) (CP rfl rfl rfl rfl rfl) ⟨by simp only;omega,?_,?_,st.tail⟩ (by simp only;omega)
    ·simp only;rw [hex,hxl];exact hd2
    ·simp only;rw [hex,hxl];omega
 ·refine AP ?_
  rw [za (by omega)]at st
  exact ⟨_,rfl,st⟩
end Go.Bn
end

section
namespace Go.Bn
open Go
structure GH {α:Type} (d:TypeDesc) (kv:α→Value):Prop where
  inj:∀ {a b},kv a=kv b→a=b
  isk:∀a,MapKept.IsKey d (kv a)
theorem PP:GH (.int .i64) (Value.int .i64):=⟨fun h=>by cases h;rfl,fun _=>by simp [MapKept.IsKey]⟩
@[reducible] def AU (l:List UInt8):Value:= .string (str l)
theorem He:GH .string AU:=⟨fun h=>by simp only [AU,Value.string.injEq]at h;exact fT.1 h,fun _=>by simp [MapKept.IsKey]⟩
theorem UG {β:Type} (q:β→β) (e:β) (U:List β):∀ (T:List β),(T++e::U).modify T.length q=T++q e::U
 | []=>rfl
 | t::T=>by rw [z5,ze,List.modify_succ_cons,UG q e U T];rfl
structure DK {α:Type} (kv:α→Value) (es:Array MapEntry) (ck:Nat) (f:α→Option Value):Prop where
  keys:∀e∈es.toList,∃k,e.key=kv k
  st:MapKept.Stamped es ck
  all:∀k v,f k=some v↔∃e∈es.toList,e.key=kv k∧e.val=v
section
variable {α:Type} {kv:α→Value} {es:Array MapEntry} {ck:Nat} {f:α→Option Value} {D:TypeDesc}
theorem DK.empty (c:Nat):DK kv #[] c (fun _=>none):=⟨by simp,MapKept.stamped_empty c,by simp⟩
variable [DecidableEq α]
theorem DK.isKey (h:DK kv es ck f) (hk:GH D kv):∀x∈es.toList,MapKept.IsKey D x.key:=fun x hx=>by
 obtain ⟨k,e⟩:=h.keys x hx
 rw [e];exact hk.isk k
def Gw (f:α→Option Value) (k:α) (v:Value):α→Option Value:=fun j=>if j=k then some v else f j
def H3 (f:α→Option Value) (k:α):α→Option Value:=fun j=>if j=k then none else f j
theorem DK.push (h:DK kv es ck f) (hi:GH D kv) {k:α} (hk:∀x∈es.toList,x.key≠kv k) (v:Value):DK kv (es.push {key:=kv k,val:=v,born:=ck}) (ck+1) (Gw f k v):=by
 refine ⟨fun e he=> ?_,MapKept.stamped_push h.st hk,fun j u=> ?_⟩
 ·simp only [Array.toList_push,List.mem_append,zo]at he
  rcases he with he | rfl
  ·exact h.keys e he
  ·exact ⟨k,rfl⟩
 ·unfold Gw
  simp only [Array.toList_push,List.mem_append,zo]
  by_cases hj:j=k
  ·subst hj
   rw [if_pos rfl]
   constructor
   ·intro e;cases e;exact ⟨_,.inr rfl,rfl,rfl⟩
   ·rintro ⟨e,he | rfl,h1,h2⟩
    ·exact absurd h1 (hk e he)
    ·rw [←h2]
  ·rw [if_neg hj,h.all]
   constructor
   ·rintro ⟨e,he,h1,h2⟩;exact ⟨e,.inl he,h1,h2⟩
   ·rintro ⟨e,he | rfl,h1,h2⟩
    ·exact ⟨e,he,h1,h2⟩
    ·exact absurd (hi.inj h1).symm hj
theorem DK.split (h:DK kv es ck f) {j:Nat} {e:MapEntry} {k:α} (he:es.toList[j]? =some e) (hk:e.key=kv k):∃T U,es.toList=T++e::U∧T.length=j∧(∀x∈T,x.key≠kv k)∧∀x∈U,x.key≠kv k:=by
 obtain ⟨hjl,hge⟩:=zc.1 he
 have hL:es.toList=es.toList.take j++e::es.toList.drop (j+1):=by
  rw [←hge,←List.drop_eq_getElem_cons hjl,List.take_append_drop]
 refine ⟨_,_,hL,by rw [z6];omega,?_⟩
 have hnd:=h.st.2.2
 rw [hL,List.map_append,zj]at hnd
 obtain ⟨n1,n2,n3⟩:=List.nodup_append.1 hnd
 obtain ⟨n4,n5⟩:=List.nodup_cons.1 n2
 exact ⟨fun x hx hh=>n3 x.key (List.mem_map.2 ⟨x,hx,rfl⟩) e.key zp (hh.trans hk.symm),fun x hx hh=>n4 (List.mem_map.2 ⟨x,hx,hh.trans hk.symm⟩)⟩
theorem DK.set (h:DK kv es ck f) (hi:GH D kv) {k:α} {j:Nat} {e:MapEntry} (he:es.toList[j]? =some e) (hk:e.key=kv k) (v:Value):DK kv (es.modify j fun e=>{e with key:=kv k,val:=v}) ck (Gw f k v):=by
 have hg:∀e',es[j]? =some e'→kv k=e'.key:=fun e' he'=>by
  rw [Array.getElem?_toList]at he
  rw [he]at he';cases he';exact hk.symm
 have hkeys:=MapKept.modify_keys (es:=es) j (fun e=>{e with key:=kv k,val:=v}) hg
 obtain ⟨T,U,hL,hT,hTk,hDk⟩:=h.split he hk
 have hm:(es.modify j fun e=>{e with key:=kv k,val:=v}).toList=T++{e with key:=kv k,val:=v}::U:=by
  rw [Array.toList_modify,hL,←hT,UG]
 have hal:=h.all
 refine ⟨fun e' he'=> ?_,MapKept.stamped_modify h.st j _ (fun _ _=>rfl) (fun e' he' h'=>hg e' h'),fun i u=> ?_⟩
 ·have:e'.key∈(es.modify j fun e=>{e with key:=kv k,val:=v}).toList.map (·.key):=List.mem_map.2 ⟨e',he',rfl⟩
  rw [hkeys]at this
  obtain ⟨x,hx,hxe⟩:=List.mem_map.1 this
  rw [←hxe];exact h.keys x hx
 ·rw [hm]
  have hal:=hal i u
  rw [hL]at hal
  simp only [List.mem_append,List.mem_cons]at hal ⊢
  unfold Gw
  by_cases hi':i=k
  ·subst hi'
   rw [if_pos rfl]
   constructor
   ·intro hh;cases hh;exact ⟨_,.inr (.inl rfl),rfl,rfl⟩
   ·rintro ⟨x,hx | rfl | hx,h1,h2⟩
    ·exact absurd h1 (hTk x hx)
    ·rw [←h2]
    ·exact absurd h1 (hDk x hx)
  ·rw [if_neg hi',hal]
   constructor
   ·rintro ⟨x,hx | rfl | hx,h1,h2⟩
    ·exact ⟨x,.inl hx,h1,h2⟩
    ·rw [hk]at h1;exact absurd (hi.inj h1).symm hi'
    ·exact ⟨x,.inr (.inr hx),h1,h2⟩
   ·rintro ⟨x,hx | rfl | hx,h1,h2⟩
    ·exact ⟨x,.inl hx,h1,h2⟩
    ·exact absurd (hi.inj h1).symm hi'
    ·exact ⟨x,.inr (.inr hx),h1,h2⟩
theorem DK.del (h:DK kv es ck f) (hi:GH D kv) {k:α} {j:Nat} {e:MapEntry} (he:es.toList[j]? =some e) (hk:e.key=kv k):DK kv (es.eraseIdxIfInBounds j) ck (H3 f k):=by
 obtain ⟨T,U,hL,hT,hTk,hDk⟩:=h.split he hk
 have hm:(es.eraseIdxIfInBounds j).toList=T++U:=by
  rw [Array.toList_eraseIdxIfInBounds,hL,List.eraseIdx_append_of_length_le (by omega),hT,Nat.sub_self];rfl
 have hkk:=h.keys
 have hal:=h.all
 rw [hL]at hkk
 refine ⟨fun x hx=>hkk x ?_,MapKept.stamped_erase h.st j,fun i u=> ?_⟩
 ·rw [hm]at hx
  rcases List.mem_append.1 hx with hx | hx
  ·exact List.mem_append_left _ hx
  ·exact List.mem_append_right _ (zq _ hx)
 ·rw [hm]
  have hal:=hal i u
  rw [hL]at hal
  simp only [List.mem_append,List.mem_cons]at hal ⊢
  unfold H3
  by_cases hi':i=k
  ·subst hi'
   rw [if_pos rfl]
   refine ⟨fun hh=>(by cases hh),?_⟩
   rintro ⟨x,hx | hx,h1,h2⟩
   ·exact absurd h1 (hTk x hx)
   ·exact absurd h1 (hDk x hx)
  ·rw [if_neg hi',hal]
   constructor
   ·rintro ⟨x,hx | rfl | hx,h1,h2⟩
    ·exact ⟨x,.inl hx,h1,h2⟩
    ·rw [hk]at h1;exact absurd (hi.inj h1).symm hi'
    ·exact ⟨x,.inr hx,h1,h2⟩
   ·rintro ⟨x,hx | hx,h1,h2⟩
    ·exact ⟨x,.inl hx,h1,h2⟩
    ·exact ⟨x,.inr (.inr hx),h1,h2⟩
end
def Dj {α:Type} (kv:α→Value) (p:Nat) (f:α→Option Value):AE:=Cb fun (s:Array MapEntry×Nat)=>Fb (DK kv s.1 s.2 f) (BG p (.map s.1 s.2))
def Hi (P : Program) (t : TypeId) : Option (TypeDesc × Value) :=
  match P.underlying t with
  | some (.map k e) => match P.underlying k, P.info? e with
    | some d, some { zero := some z, .. } => some (d, z)
    | _, _ => none
  | _ => none
theorem JW {P:Program} {t:TypeId} {d:TypeDesc} {z:Value} (h:Hi P t=some (d,z)):∃k e,P.underlying t=some (.map k e)∧P.underlying k=some d∧∀w:World,(zeroValue e).run P w= .ok z w:=by
 unfold Hi at h
 split at h
 ·rename_i k e hu
  split at h
  ·rename_i hk hz
   cases h
   exact ⟨k,e,hu,hk,fun w=>by simp [zeroValue,typeInfo,hz]⟩
  ·cases h
 ·cases h
theorem Js {P:Program} {kt:TypeId} {D:TypeDesc} {k:Value} (hd:P.underlying kt=some D) (hk:MapKept.IsKey D k) (b:Bool) (w:World):(Instr.checkKey b 10000 kt k).run P w= .ok () w:=MapKept.run_checkKey hd hk b 9999
section
variable {P:Program} {E:Au} {hp:AA} {cl:Ca} {d:Option Tmp} {ty:TypeId} {pos:String} {af:Array Edge} {g:Option (Nat×Bool)}
variable {x y z:Operand} {t t':TypeId} {α:Type} {kv:α→Value} {D:TypeDesc} {zv:Value}
theorem P3:Bd P ⟨d,.makeMap t none,ty,pos,af,g⟩ E hp (fun v hp'=>∃p,v= .map (some p)∧EZ (Dj kv p (fun _=>none)) hp hp'):=by
 intro n a w ho hw K hK
 subst hw
 have hrun:(execOp a.eval ⟨d,.makeMap t none,ty,pos,af,g⟩).run P w= .ok (.value (.map (some w.heap.size))) {w with heap:=w.heap.push (.map #[] 0)}:=by
  simp [execOp,Instr.makeMap]
 simp only [Oper.wp,hrun,Oper.upon]
 refine hK _ _ ⟨rfl,rfl,rfl⟩ ⟨_,rfl,?_⟩
 obtain ⟨h1,S,h2,h3⟩:=Ik (.map #[] 0) w.heap
 exact ⟨h1,S,⟨(#[],0),DK.empty 0,h2⟩,h3⟩
variable [DecidableEq α]
theorem St.mapG_upd {B:Nat} {h0:AA} {rs:List AE} (st:St B h0 hp rs) {j p:Nat} {f f':α→Option Value} {es es':Array MapEntry} {ck ck':Nat} (hj:rs[j]? =some (Dj kv p f)) (hb:hp[p]? =some (.map es ck)) (h:DK kv es' ck' f'):
  St B h0 (hp.setIfInBounds p (.map es' ck')) (rs.set j (Dj kv p f')):=st.upd hj ⟨by simp,fun S' hS'=>by
 obtain ⟨⟨es1,ck1⟩,hes',hS1,hb1⟩:=hS'
 refine ⟨S',⟨(es',ck'),h,hS1,?_⟩,fun k hk=> .inl hk,fun q _ hq=> ?_⟩
 ·simp [(Array.getElem?_eq_some_iff.1 hb).1]
 ·exact Array.getElem?_setIfInBounds_ne (fun e=>hq ((hS1 q).2 e.symm))⟩
theorem St.mapG_at {B:Nat} {h0:AA} {rs:List AE} (st:St B h0 hp rs) {j p:Nat} {f:α→Option Value} (hj:rs[j]? =some (Dj kv p f)):∃es ck,DK kv es ck f∧hp[p]? =some (.map es ck):=by
 obtain ⟨S,⟨⟨es,ck⟩,hes,hS,hb⟩,_⟩:=st.at_ hj
 exact ⟨es,ck,hes,hb⟩
theorem DK.find {es:Array MapEntry} {ck:Nat} {f:α→Option Value} (h:DK kv es ck f) (hi:GH D kv) (k:α):
  (Instr.findNow D (kv k) es.toList 0=some none∧f k=none∧∀x∈es.toList,x.key≠kv k)∨∃i e,Instr.findNow D (kv k) es.toList 0=some (some (i,e.val))∧es.toList[i]? =some e∧es[i]? =some e∧e.key=kv k∧f k=some e.val:=by
 rcases MapKept.findNow_spec (hi.isk k) es.toList 0 (h.isKey hi)with ⟨hf,hn⟩ | ⟨i,e',hf,he',hke⟩
 ·refine .inl ⟨hf,?_,hn⟩
  cases hfk:f k with
  | none=>rfl
  | some v=>
   obtain ⟨e,he,h1,_⟩:=(h.all k v).1 hfk
   exact absurd h1 (hn e he)
 ·rw [Nat.zero_add]at hf
  exact .inr ⟨i,e',hf,he',by rw [←Array.getElem?_toList];exact he',hke,(h.all k e'.val).2 ⟨e',List.mem_of_getElem? he',hke,rfl⟩⟩
theorem L3 {B:Nat} {h0:AA} {rs:List AE} (hi:GH D kv) (st:St B h0 hp rs) (j:Nat) {p:Nat} {f:α→Option Value} {k:α} {v:Value} (hj:rs[j]? =some (Dj kv p f)) (hx:ev E x=some (.map (some p))) (hy:ev E y=some (kv k)) (hz:ev E z=some v)
  (ht:Hi P t=some (D,zv)):Bd P ⟨d,.mapUpdate t x y z,ty,pos,af,g⟩ E hp (fun _ hp'=>St B h0 hp' (rs.set j (Dj kv p (Gw f k v)))):=by
 intro n a w ho hw K hK
 subst hw
 obtain ⟨kt,e,hu,hk,_⟩:=JW ht
 obtain ⟨es,ck,hes,hb⟩:=st.mapG_at hj
 rcases hes.find hi k with ⟨hf,_,hn⟩ | ⟨i,e',hf,he',hse,hke,_⟩
 ·have hrun:(execOp a.eval ⟨d,.mapUpdate t x y z,ty,pos,af,g⟩).run P w= .ok .skip {w with heap:=w.heap.setIfInBounds p (.map (es.push {key:=kv k,val:=v,born:=ck}) (ck+1))}:=by
   simp [execOp,ho.eval hx,ho.eval hy,ho.eval hz,Instr.mapUpdate,run_underlying hu,MapKept.run_getObj_map hb,Js hk (hi.isk k),MapKept.run_findKey hk hf,MapKept.run_setObj_map _ hb]
  simp only [Oper.wp,hrun,Oper.upon]
  exact hK _ _ ⟨rfl,rfl,rfl⟩ (st.mapG_upd hj hb (hes.push hi hn v))
 ·have hst:(Instr.keyThatStays e'.key (kv k)).run P w= .ok (kv k) w:=by rw [hke];exact MapKept.run_keyThatStays (hi.isk k)
  have hrun:(execOp a.eval ⟨d,.mapUpdate t x y z,ty,pos,af,g⟩).run P w= .ok .skip {w with heap:=w.heap.setIfInBounds p (.map (es.modify i fun e=>{e with key:=kv k,val:=v}) ck)}:=by
   simp [execOp,ho.eval hx,ho.eval hy,ho.eval hz,Instr.mapUpdate,run_underlying hu,MapKept.run_getObj_map hb,Js hk (hi.isk k),MapKept.run_findKey hk hf,MapKept.run_setObj_map _ hb,hse,hst]
  simp only [Oper.wp,hrun,Oper.upon]
  exact hK _ _ ⟨rfl,rfl,rfl⟩ (st.mapG_upd hj hb (hes.set hi he' hke v))
theorem P2 {B:Nat} {h0:AA} {rs:List AE} (hi:GH D kv) (st:St B h0 hp rs) (j:Nat) {p:Nat} {f:α→Option Value} {k:α} (hj:rs[j]? =some (Dj kv p f)) (hx:ev E x=some (.map (some p))) (hy:ev E y=some (kv k))
  (ht:Hi P t=some (D,zv)):Bd P ⟨d,.lookup t x y true,ty,pos,af,g⟩ E hp (fun u hp'=>u= .tuple #[(f k).getD zv,.bool (f k).isSome]∧hp=hp'):=by
 intro n a w ho hw K hK
 subst hw
 obtain ⟨kt,e,hu,hk,hz⟩:=JW ht
 obtain ⟨es,ck,hes,hb⟩:=st.mapG_at hj
 rcases hes.find hi k with ⟨hf,hnone,_⟩ | ⟨i,e',hf,he',hse,hke,hsome⟩
 ·have hrun:(execOp a.eval ⟨d,.lookup t x y true,ty,pos,af,g⟩).run P w= .ok (.value (.tuple #[zv,.bool false])) w:=by
   simp [execOp,ho.eval hx,ho.eval hy,Instr.lookup,run_underlying hu,MapKept.run_getObj_map hb,Js hk (hi.isk k),MapKept.run_findKey hk hf,hz w]
  simp only [Oper.wp,hrun,Oper.upon]
  exact hK _ _ (B8.refl w) ⟨by rw [hnone];rfl,rfl⟩
 ·have hrun:(execOp a.eval ⟨d,.lookup t x y true,ty,pos,af,g⟩).run P w= .ok (.value (.tuple #[e'.val,.bool true])) w:=by
   simp [execOp,ho.eval hx,ho.eval hy,Instr.lookup,run_underlying hu,MapKept.run_getObj_map hb,Js hk (hi.isk k),MapKept.run_findKey hk hf]
  simp only [Oper.wp,hrun,Oper.upon]
  exact hK _ _ (B8.refl w) ⟨by rw [hsome];rfl,rfl⟩
theorem cO {k:Value} (hx:ev E x=some (.map none)) (hy:ev E y=some k) (hk:MapKept.IsKey D k) (ht:Hi P t=some (D,zv)):Bd P ⟨d,.lookup t x y true,ty,pos,af,g⟩ E hp (fun u hp'=>u= .tuple #[zv,.bool false]∧hp=hp'):=by
 intro n a w ho hw K hK
 subst hw
 obtain ⟨kt,e,hu,hd,hz⟩:=JW ht
 have hrun:(execOp a.eval ⟨d,.lookup t x y true,ty,pos,af,g⟩).run P w= .ok (.value (.tuple #[zv,.bool false])) w:=by
  simp [execOp,ho.eval hx,ho.eval hy,Instr.lookup,run_underlying hu,Js hd hk,MapKept.run_findKey hd (show Instr.findNow D k [] 0=some none from rfl),hz w]
 simp only [Oper.wp,hrun,Oper.upon]
 exact hK _ _ (B8.refl w) ⟨rfl,rfl⟩
theorem Uf {B:Nat} {h0:AA} {rs:List AE} (hi:GH D kv) (st:St B h0 hp rs) (j:Nat) {p:Nat} {f:α→Option Value} {k:α} {ts:Array TypeId} (hj:rs[j]? =some (Dj kv p f)) (hx:ev E x=some (.map (some p))) (hy:ev E y=some (kv k))
  (ht:Hi P t=some (D,zv)) (hts:ts= #[t,t']):Bd P ⟨d,.call ⟨.builtin .delete,#[x,y],ts⟩,ty,pos,af,g⟩ E hp (fun _ hp'=>St B h0 hp' (rs.set j (Dj kv p (H3 f k)))):=by
 intro n a w ho hw K hK
 subst hw hts
 obtain ⟨kt,e,hu,hk,hz⟩:=JW ht
 obtain ⟨es,ck,hes,hb⟩:=st.mapG_at hj
 rcases hes.find hi k with ⟨hf,hnone,_⟩ | ⟨i,e',hf,he',hse,hke,hsome⟩
 ·have hrun:(execOp a.eval ⟨d,.call ⟨.builtin .delete,#[x,y],#[t,t']⟩,ty,pos,af,g⟩).run P w= .ok (.value (.tuple #[])) {w with heap:=w.heap.setIfInBounds p (.map es ck)}:=by
   simp [execOp,resolve,ho.eval hx,ho.eval hy,invoke,builtin,Builtin.delete_,run_underlying hu,MapKept.run_getObj_map hb,Js hk (hi.isk k),MapKept.run_findKey hk hf,MapKept.run_setObj_map _ hb]
  simp only [Oper.wp,hrun,Oper.upon]
  have e:H3 f k=f:=funext fun i=>by unfold H3;split <;> simp_all
  exact hK _ _ ⟨rfl,rfl,rfl⟩ (st.mapG_upd hj hb (by rw [e];exact hes))
 ·have hrun:(execOp a.eval ⟨d,.call ⟨.builtin .delete,#[x,y],#[t,t']⟩,ty,pos,af,g⟩).run P w= .ok (.value (.tuple #[])) {w with heap:=w.heap.setIfInBounds p (.map (es.eraseIdxIfInBounds i) ck)}:=by
   simp [execOp,resolve,ho.eval hx,ho.eval hy,invoke,builtin,Builtin.delete_,run_underlying hu,MapKept.run_getObj_map hb,Js hk (hi.isk k),MapKept.run_findKey hk hf,MapKept.run_setObj_map _ hb]
  simp only [Oper.wp,hrun,Oper.upon]
  exact hK _ _ ⟨rfl,rfl,rfl⟩ (st.mapG_upd hj hb (hes.del hi he' hke))
theorem cP {B:Nat} {h0:AA} {rs:List AE} (hi:GH D kv) (st:St B h0 hp rs) (j:Nat) {p:Nat} {f:α→Option Value} {ts:Array TypeId} (ks:List α) (hf:∀k v,f k=some v→k∈ks) (hj:rs[j]? =some (Dj kv p f)) (hx:ev E x=some (.map (some p)))
  (ht:Hi P t=some (D,zv)) (hts:ts= #[t]):Bd P ⟨d,.call ⟨.builtin .len,#[x],ts⟩,ty,pos,af,g⟩ E hp (fun u hp'=>(∃n:Nat,u= .int .i64 (n:Int)∧n≤ks.length)∧hp=hp'):=by
 intro n a w ho hw K hK
 subst hw hts
 obtain ⟨kt,e,hu,hk,hz⟩:=JW ht
 obtain ⟨es,ck,hes,hb⟩:=st.mapG_at hj
 have hrun:(execOp a.eval ⟨d,.call ⟨.builtin .len,#[x],#[t]⟩,ty,pos,af,g⟩).run P w= .ok (.value (.int .i64 (es.size:Int))) w:=by
  simp [execOp,resolve,ho.eval hx,invoke,builtin,Builtin.len_,run_underlying hu,MapKept.run_getObj_map hb,goInt]
 simp only [Oper.wp,hrun,Oper.upon]
 refine hK _ _ (B8.refl w) ⟨⟨es.size,rfl,?_⟩,rfl⟩
 have hsub:es.toList.map (·.key) ⊆ ks.map kv:=fun v hv=>by
  obtain ⟨e,he,rfl⟩:=List.mem_map.1 hv
  obtain ⟨k,hk⟩:=hes.keys e he
  exact List.mem_map.2 ⟨k,hf k e.val ((hes.all k e.val).2 ⟨e,he,hk,rfl⟩),hk.symm⟩
 have:=List.Nodup.length_le_of_subset hes.st.2.2 hsub
 simpa using this
end
end Go.Bn
end

section
namespace Go.Bn
open Go Proofs
theorem bR {n c a d:Nat} {A:Option Addr} {b:List UInt8} {h0:AA} (hr:Rd h0 A (b.map AN)) (hl:b.length=n) (hn:n≤1099511627776) (ha:a≤1099511627776) (hd:d≤1099511627776):
  AG Tryz.prog 307 [.slice A n c,nV a,nV d] h0 fun v h'=>v=nV (DQ b a d)∧h0=h':=by
 have hout:(n≤a∨d<1∨32768<d∨a<d)→DQ b a d=0:=fun h=>by
  by_cases h0:DQ b a d=0
  ·exact h0
  ·have:=PX h0;omega
 refine Bg Tryz.func307 rfl fun _=>BP ?_
 refine Am 10 rfl (fun h=> ?_) (fun h=> ?_)
 ·exact absurd h (by omega)
 ·refine AL ?_
  refine Am 16 rfl (fun h=> ?_) (fun h=> ?_)
  ·have hz:DQ b a d=0:=hout (by omega)
   refine Fv ?_
   rw [hz]
   exact ⟨rfl,rfl⟩
  ·refine AJ ?_
   refine Am 20 rfl (fun h=> ?_) (fun h=> ?_)
   ·have hz:DQ b a d=0:=hout (by omega)
    refine Cp ?_
    rw [hz]
    exact ⟨rfl,rfl⟩
   ·refine AJ ?_
    refine Am 24 rfl (fun h=> ?_) (fun h=> ?_)
    ·have hz:DQ b a d=0:=hout (by omega)
     refine Bu ?_
     rw [hz]
     exact ⟨rfl,rfl⟩
    ·refine AH ?_
     refine AK rfl (fun h=> ?_) (fun h=> ?_)
     ·have hz:DQ b a d=0:=hout (by omega)
      refine AH ?_
      rw [hz]
      exact ⟨rfl,rfl⟩
     ·refine AO ?_
      obtain ⟨g,o,rfl,hc⟩:=hr.at_ (by rw [z3];omega)
      have hci:∀i (hi:i<b.length),Az h0 ⟨g,o+i,none⟩=some (AN b[i]):=fun i hi=>hc i _ (by rw [zr,z9 hi];rfl)
      have hL:DQ b a d=min 258 (ET (b.drop a) (b.drop (a-d))):=by unfold DQ;rw [if_neg (by omega)]
      refine BD (fun k=>258-k) (fun k=>[(0,.slice (some ⟨g,o,none⟩) n c),(1,nV a),(2,nV d),(7,nV k)])
       (fun (k:Nat) hp=>h0=hp∧k≤258∧a+k≤n∧k+ET (b.drop (a+k)) (b.drop (a-d+k))=ET (b.drop a) (b.drop (a-d)))
       0 (Bt rfl rfl rfl rfl) ⟨rfl,by omega,by omega,by rw [Nat.zero_add,Nat.add_zero,Nat.add_zero]⟩ ?_
      rintro k hp ⟨rfl,hk,hak,hlk⟩
      refine AL ?_
      refine Am 31 rfl (fun h=> ?_) (fun h=> ?_)
      ·refine AP ?_
       refine Am 39 rfl (fun h=> ?_) (fun h=> ?_)
       ·have hst:=NM (b:=b) (i:=a+k) (j:=a-d+k) (by omega) (by omega)
        refine AJ ?_
        refine xa (C0 (i:=a+k) rfl rfl rfl (by omega)) ?_
        refine xl (hci (a+k) (by omega)) rfl (AH ?_)
        refine xa (Bk rfl rfl (by omega) (by simp only [AI];omega)) ?_
        refine xa (C0 (i:=a+k-d) rfl rfl rfl (by omega)) ?_
        refine xl (hci (a+k-d) (by omega)) rfl (AF ?_)
        refine AK rfl (fun h=> ?_) (fun h=> ?_)
        ·refine AP ?_
         exact Ad (k+1) (Bt rfl rfl rfl rfl) ⟨rfl,by omega,by omega,by
          have he:b[a+k]'(by omega)=b[a-d+k]'(by omega):=by
           have e1:a+k-d=a-d+k:=by omega
           simp only [e1]at h
           exact UInt8.toNat_inj.1 (by omega)
          rw [if_pos he]at hst
          rw [show a+(k+1)=a+k+1 by omega,show a-d+(k+1)=a-d+k+1 by omega];omega⟩ (by omega)
        ·refine AO ?_
         have he:¬b[a+k]'(by omega)=b[a-d+k]'(by omega):=fun hh=>by
          have e1:a+k-d=a-d+k:=by omega
          simp only [e1]at h
          rw [hh]at h
          exact h rfl
         rw [if_neg he]at hst
         rw [hL,show min 258 (ET (b.drop a) (b.drop (a-d)))=k by omega]
         exact ⟨rfl,rfl⟩
       ·refine IV ?_
        rw [ap (by omega)]at hlk
        rw [hL,show min 258 (ET (b.drop a) (b.drop (a-d)))=k by omega]
        exact ⟨rfl,rfl⟩
      ·refine iN ?_
       rw [hL,show min 258 (ET (b.drop a) (b.drop (a-d)))=k by omega]
       exact ⟨rfl,rfl⟩
end Go.Bn
end

section
namespace Go.Bn
open Go Proofs
theorem WA (x y k:Nat) (h:x<2^k):x||| y*2^k=x+y*2^k:=by
 have:=Nat.two_pow_add_eq_or_of_lt h y
 rw [Nat.or_comm,Nat.mul_comm,←this];omega
theorem bP {n c a:Nat} {A:Option Addr} {b:List UInt8} {h0:AA} (hr:Rd h0 A (b.map AN)) (hl:b.length=n) (hn:n≤1099511627776) (ha:a+3≤n):
  AG Tryz.prog 326 [.slice A n c,nV a] h0 fun v h'=>v=nV (Di b a)∧h0=h':=by
 obtain ⟨g,o,rfl,hc⟩:=hr.at_ (by rw [z3];omega)
 have hci:∀i (hi:i<b.length),Az h0 ⟨g,o+i,none⟩=some (AN b[i]):=fun i hi=>hc i _ (by rw [zr,z9 hi];rfl)
 have l1:=(b[a]'(by omega)).toNat_lt
 have l2:=(b[a+1]'(by omega)).toNat_lt
 have l3:=(b[a+2]'(by omega)).toNat_lt
 refine Ac Tryz.func326 rfl fun _=>AP ?_
 refine xa (C0 (i:=a) rfl rfl rfl (by omega)) ?_
 refine xl (hci a (by omega)) rfl ?_
 first | refine AD (Bj rfl rfl (by simp only [AI];omega)) rfl rfl ?_ | refine AD (Dm rfl rfl) rfl rfl ?_
 refine AT (nV (b[a]'(by omega)).toNat) rfl (AF ?_)
 refine xa (C0 (i:=a+1) rfl rfl rfl (by omega)) ?_
 refine xl (hci (a+1) (by omega)) rfl ?_
 first | refine AD (Bj rfl rfl (by simp only [AI];omega)) rfl rfl ?_ | refine AD (Dm rfl rfl) rfl rfl ?_
 refine AT (nV (b[a+1]'(by omega)).toNat) rfl ?_
 first | refine AD (GT 8 rfl rfl (by decide) (by simp only [AI];omega)) rfl rfl ?_ | refine AD (Lv 8 rfl rfl (by decide) (by simp only [AI];omega)) rfl rfl ?_ | refine AD (Lw 8 rfl rfl (by decide)) rfl rfl ?_
 refine xa (UY rfl rfl (by omega) (by omega)) ?_
 rw [WA _ _ 8 (by omega)]
 refine AF ?_
 refine xa (C0 (i:=a+2) rfl rfl rfl (by omega)) ?_
 refine xl (hci (a+2) (by omega)) rfl ?_
 first | refine AD (Bj rfl rfl (by simp only [AI];omega)) rfl rfl ?_ | refine AD (Dm rfl rfl) rfl rfl ?_
 refine AT (nV (b[a+2]'(by omega)).toNat) rfl ?_
 first | refine AD (GT 16 rfl rfl (by decide) (by simp only [AI];omega)) rfl rfl ?_ | refine AD (Lv 16 rfl rfl (by decide) (by simp only [AI];omega)) rfl rfl ?_ | refine AD (Lw 16 rfl rfl (by decide)) rfl rfl ?_
 refine xa (UY rfl rfl (by omega) (by omega)) ?_
 rw [WA _ _ 16 (by omega)]
 refine AF ?_
 refine ⟨congrArg (Value.int .i64) (congrArg Nat.cast ?_),rfl⟩
 unfold Di
 rw [GR (by omega),GR (by omega),GR (by omega)]
 omega
def H9 (b:List UInt8) (u:Nat):Int→Option Value:=fun k=>if 0≤k then (IA b u k.toNat).map nV else none
theorem aN (b:List UInt8) (u k:Nat):H9 b u (k:Int)=(IA b u k).map nV:=by unfold H9;rw [if_pos (by omega)];rfl
theorem aO (b:List UInt8):H9 b 0=fun _=>none:=by
 funext k;unfold H9;split <;> rfl
theorem Tc (b:List UInt8) (u:Nat):H9 b (u+1)=Gw (H9 b u) (Di b u:Nat) (nV u):=by
 funext k
 unfold Gw
 dsimp only [H9]
 by_cases hk:0≤k
 ·rw [if_pos hk,if_pos hk,aP]
  by_cases h:Di b u=k.toNat
  ·rw [if_pos h,if_pos (by omega)];rfl
  ·rw [if_neg h,if_neg (by omega)]
 ·rw [if_neg hk,if_neg hk,if_neg (by omega)]
def GX (b:List UInt8) (u:Nat):List Int:=(List.range u).map fun i=>GB (Ee b i)
theorem Jm (b:List UInt8) (u:Nat):(GX b u).length=u:=by simp [GX]
theorem VU (b:List UInt8) (u:Nat):GX b (u+1)=GX b u++[GB (Ee b u)]:=by simp [GX,List.range_succ]
theorem VT {b:List UInt8} {u i:Nat} (h:i<u):(GX b u)[i]? =some (GB (Ee b i)):=by simp [GX,h]
def ED (p:Nat) (A:Option Addr) (n c u:Nat) (b:List UInt8):AE:=
  Cb fun (x:Value×Nat)=>CD (CD (row 3 1 x.1 ((GX b u).map iV)) (Dj (Value.int .i64) x.2 (H9 b u))) (pt p 377 [.slice A n c,.map (some x.2),x.1,nV u])
theorem St.fin {B:Nat} {h0 hp:AA} {p n c u:Nat} {A:Option Addr} {b:List UInt8} {F:List AE}:St B h0 hp (ED p A n c u b::F)↔∃v m,St B h0 hp (Bn.row 3 1 v ((GX b u).map iV)::Dj (Value.int .i64) m (H9 b u)::pt p 377 [.slice A n c,.map (some m),v,nV u]::F):=
 ⟨fun st=>by
  obtain ⟨⟨v,m⟩,st⟩:=St.ex.1 st
  exact ⟨v,m,St.star.1 (St.star.1 st)⟩,fun ⟨v,m,st⟩=>St.ex.2 ⟨(v,m),St.star.2 (St.star.2 st)⟩⟩
theorem bS {n c:Nat} {A:Option Addr} {b:List UInt8} {h0:AA}:
  AG Tryz.prog 242 [.slice A n c] h0 fun v h'=>∃p,v= .pointer (some ⟨p,0,none⟩)∧St h0.size h0 h' [ED p A n c 0 b]:=by
 refine BE Tryz.func242 rfl fun _=> ?_
 have st:=St.start h0
 refine AO ?_
 refine xv (P3 (kv:=Value.int .i64)) ?_
 rintro _ hp ⟨m,rfl,hnew⟩
 replace st:=st.new hnew
 refine xa (AZ (ps:=[(0,.slice A n c),(1,.map (some m))]) (cs:= #[.slice A n c,.map (some m),.slice none 0 0,nV 0]) rfl rfl) ?_
 refine xb (us:=[.slice A n c,.map (some m),.slice none 0 0,nV 0]) st fun p hp st=>AF ?_
 refine ⟨_,rfl,St.fin.2 ⟨.slice none 0 0,m,?_⟩⟩
 rw [aO]
 exact (st.nilrow 3 1).re 3 [0,2,1] (by decide)
theorem bY {B p n c u a:Nat} {A:Option Addr} {b:List UInt8} {F:List AE} {hb h0:AA} (st0:St B hb h0 (ED p A n c u b::F)) (hn:n≤1099511627776):
  AG Tryz.prog 321 [.pointer (some ⟨p,0,none⟩),nV a] h0 fun v h'=>v= .bool (decide (a+3≤n))∧h0=h':=by
 obtain ⟨v,m,st⟩:=St.fin.1 st0
 refine Ac Tryz.func321 rfl fun _=>AP ?_
 refine AT (.bool true) (congrArg Value.bool (decide_eq_true (by omega))) (AH ?_)
 refine xc st 2 0 ?_
 refine AC ?_
 refine xa (EU rfl rfl (by simp only [AI];omega)) (AC ?_)
 refine AT (.bool (decide (a+3≤n))) (congrArg Value.bool (decide_eq_decide.2 ⟨fun _=>by omega,fun _=>by omega⟩)) (AJ ?_)
 exact ⟨rfl,rfl⟩
theorem bQ {B p n c u a:Nat} {A:Option Addr} {b:List UInt8} {F:List AE} {h0:AA} (st0:St B h0 h0 (ED p A n c u b::F)) (hrB:∀h',BC B h0 h'→Rd h' A (b.map AN)) (hl:b.length=n) (hn:n≤1099511627776) (ha:a+3≤n) (hu:u≤n):
  AG Tryz.prog 322 [.pointer (some ⟨p,0,none⟩),nV a] h0 fun _ h'=>St B h0 h' (ED p A n c (max u (a+1)) b::F):=by
 refine Ac Tryz.func322 rfl fun _=>AC ?_
 refine BD (fun s=>a+1-s) (fun s=>[(0,.pointer (some ⟨p,0,none⟩)),(1,nV a)])
  (fun (s:Nat) hp=>s≤max u (a+1)∧u≤s∧St B h0 hp (ED p A n c s b::F))
  u (Cu rfl rfl) ⟨by omega,Nat.le_refl _,st0⟩ ?_
 clear st0
 rintro s hp ⟨hs1,hs2,st⟩
 obtain ⟨v,m,st⟩:=St.fin.1 st
 obtain ⟨Ap,np,cp,rfl,hlp,_⟩:=st.row 0 rfl
 rw [z3,Jm,zf]at hlp
 refine AL ?_
 refine xc st 2 3 ?_
 refine AF ?_
 refine AK rfl (fun h=> ?_) (fun h=> ?_)
 ·refine AJ ?_
  refine El (Ck [(8,.grow)]) (by kernel_rfl) (by kernel_rfl) (AF ?_)
  refine xc st 2 0 ?_
  refine AF ?_
  refine xc st 2 3 ?_
  refine BW (CT (bP (hrB _ st.low) hl hn (by omega)) rfl (by kernel_rfl)) rfl rfl rfl (fun _ _ h=>h.2▸BC.refl _ _) ?_
  rintro _ _ ⟨rfl,rfl⟩
  refine AO ?_
  refine xc st 2 1 ?_
  refine AC ?_
  refine xv (P2 (zv:= .int .i64 0) PP st 1 rfl rfl rfl (by kernel_rfl)) ?_
  rintro _ _ ⟨rfl,rfl⟩
  have hlf:IA b s (Di b s)=Ee b s:=rfl
  rw [aN,hlf]
  obtain ⟨q,hq⟩:∃q,Ee b s=q:=⟨_,rfl⟩
  rw [hq]
  by_cases hq1:q.isSome=true
  ·obtain ⟨q',rfl⟩:=Option.isSome_iff_exists.1 hq1
   refine AT (.tuple #[nV q',.bool true]) rfl (BP ?_)
   refine xa (Bm rfl) ?_
   refine AT (.bool false) rfl (Aj ?_)
   refine xc st 2 2 ?_
   refine AC ?_
   refine xv (Ep (v:=iV (GB (some q'))) rfl rfl rfl) ?_
   rintro _ hp ⟨Aq,rfl,hxq,hrq⟩
   replace st:=st.ext hxq
   refine BN (BY st 0 rfl (hrq) (rfl) (Ps [GB _]) (by simp [Jm];omega) rfl rfl rfl rfl rfl rfl rfl) rfl rfl rfl fun v hp st=> ?_
   simp only [z0,z1]at st
   rw [←hq,show (GX b s).map iV++[iV (GB (Ee b s))]=(GX b (s+1)).map iV by rw [VU,List.map_append];rfl]at st
   obtain ⟨A7,n7,c7,rfl,_⟩:=st.row 0 rfl
   refine AB ?_
   refine xj st 2 fun hp st=> ?_
   simp only [z0,z1]at st
   refine AH ?_
   refine xc st 2 1 ?_
   refine AJ ?_
   refine xc st 2 3 ?_
   refine BT (L3 (zv:= .int .i64 0) PP st 1 rfl rfl rfl rfl (by kernel_rfl)) rfl rfl fun _ hp st=> ?_
   simp only [z0,z1]at st
   rw [←Tc]at st
   refine AL ?_
   refine xc st 2 3 ?_
   refine AF ?_
   refine xj st 2 fun hp st=> ?_
   simp only [z0,z1]at st
   refine AC ?_
   exact Ad (s+1) (Cu rfl rfl) ⟨by omega,by omega,St.fin.2 ⟨_,_,st⟩⟩ (by omega)
  ·obtain rfl:q=none:=by simpa using hq1
   refine AT (.tuple #[.int .i64 0,.bool false]) rfl (BP ?_)
   refine xa (Bm rfl) ?_
   refine AT (.bool true) rfl (Bu ?_)
   refine xc st 2 2 ?_
   refine AC ?_
   refine xv (Ep (v:=iV (GB none)) rfl rfl rfl) ?_
   rintro _ hp ⟨Aq,rfl,hxq,hrq⟩
   replace st:=st.ext hxq
   refine BN (BY st 0 rfl (hrq) (rfl) (Ps [GB _]) (by simp [Jm];omega) rfl rfl rfl rfl rfl rfl rfl) rfl rfl rfl fun v hp st=> ?_
   simp only [z0,z1]at st
   rw [←hq,show (GX b s).map iV++[iV (GB (Ee b s))]=(GX b (s+1)).map iV by rw [VU,List.map_append];rfl]at st
   obtain ⟨A7,n7,c7,rfl,_⟩:=st.row 0 rfl
   refine AB ?_
   refine xj st 2 fun hp st=> ?_
   simp only [z0,z1]at st
   refine AH ?_
   refine xc st 2 1 ?_
   refine AJ ?_
   refine xc st 2 3 ?_
   refine BT (L3 (zv:= .int .i64 0) PP st 1 rfl rfl rfl rfl (by kernel_rfl)) rfl rfl fun _ hp st=> ?_
   simp only [z0,z1]at st
   rw [←Tc]at st
   refine AL ?_
   refine xc st 2 3 ?_
   refine AF ?_
   refine xj st 2 fun hp st=> ?_
   simp only [z0,z1]at st
   refine AC ?_
   exact Ad (s+1) (Cu rfl rfl) ⟨by omega,by omega,St.fin.2 ⟨_,_,st⟩⟩ (by omega)
 ·refine AB ?_
  have he:s=max u (a+1):=by omega
  rw [←he]
  exact St.fin.2 ⟨_,_,st⟩
theorem bI {p a:Nat} {h0:AA}:AG Tryz.prog 306 [.pointer (some ⟨p,0,none⟩),nV a] h0 fun v h'=>∃p1 p2,v= .func (.func 320) #[] #[.pointer (some ⟨p1,0,none⟩),.pointer (some ⟨p2,0,none⟩)]∧St h0.size h0 h' [pt p2 3 [nV a],pt p1 331 [.pointer (some ⟨p,0,none⟩)]]:=by
 refine Ac Tryz.func306 rfl fun _=> ?_
 have st:=St.start h0
 refine AB ?_
 refine xv (Bv rfl rfl) ?_
 rintro _ hp ⟨p1,rfl,hnew⟩
 replace st:=st.new hnew
 refine xv (Bv rfl rfl) ?_
 rintro _ hp ⟨p2,rfl,hnew⟩
 replace st:=st.new hnew
 refine AP ?_
 exact ⟨_,_,rfl,st⟩
theorem bH {B y p1 p2 p n c u a:Nat} {A:Option Addr} {b:List UInt8} {F:List AE} {h0:AA} (JR JD:List Nat→List AE)
  (st0:St B h0 h0 (ED p A n c u b::pt p1 331 [.pointer (some ⟨p,0,none⟩)]::pt p2 3 [nV a]::(JR []++F))) (hrB:∀h',BC B h0 h'→Rd h' A (b.map AN)) (hl:b.length=n) (hn:n≤1099511627776) (hu:u≤n)
  (hround:∀ (s:List Nat) (d:Nat) (r:List Nat) (u':Nat) (F':List AE) (h:AA),BC B h0 h→s++d::r=HY b a→1≤d→d≤a→a+3≤n→St B h h (JR s++(ED p A n c u' b::F'))→
   FJ Tryz.prog y [nV d] h fun v h'=>∃t,v= .bool t∧(t=true→St B h h' (JR (s++[d])++(ED p A n c u' b::F')))∧(t=false→St B h h' (JD (s++[d])++(ED p A n c u' b::F')))):
  AG Tryz.prog 320 [.func (.yield y) #[] #[],.pointer (some ⟨p1,0,none⟩),.pointer (some ⟨p2,0,none⟩)] h0
   fun _ h'=>∃u' P,u'≤n∧(P=JR (HY b a)∨∃s d r,s++d::r=HY b a∧P=JD (s++[d]))∧St B h0 h' (ED p A n c u' b::pt p1 331 [.pointer (some ⟨p,0,none⟩)]::pt p2 3 [nV a]::(P++F)):=by
 refine Bg Tryz.func320 rfl fun _=> ?_
 have st:=st0
 refine AF ?_
 refine xc st 1 0 ?_
 refine xc st 2 0 ?_
 refine xk (bY st hn) rfl ?_
 rintro _ _ ⟨rfl,rfl⟩
 refine AB ?_
 refine AK rfl (fun h=> ?_) (fun h=> ?_)
 ·have hc0:HY b a=[]:=R1 (by omega) a
  refine AC ?_
  rw [hc0]
  exact ⟨u,_,hu,.inl rfl,st⟩
 ·have ha:a+3≤n:=by omega
  refine AF ?_
  refine xc st 1 0 ?_
  refine xc st 2 0 ?_
  refine xk (bQ st.here (fun h' hh=>hrB h' (st.low.trans hh)) hl hn ha hu) rfl ?_
  rintro _ hp2 st2
  replace st:=st.trans st2
  clear st2 st0
  obtain ⟨u',hu'⟩:∃u',max u (a+1)=u':=⟨_,rfl⟩
  rw [hu']at st
  have hau:a<u':=by omega
  have hun:u'≤n:=by omega
  obtain ⟨v5,m5,sto⟩:=St.fin.1 st
  obtain ⟨A5,n5,c5,rfl,hl5,_,_,hr5⟩:=sto.row 0 rfl
  rw [z3,Jm,zf]at hl5
  obtain ⟨g5,o5,rfl,hc5⟩:=hr5.at_ (by rw [z3,Jm];omega)
  refine AF ?_
  refine xc st 1 0 ?_
  refine AB ?_
  refine xc sto 2 2 ?_
  refine xc st 2 0 ?_
  refine xa (C0 (i:=a) rfl rfl rfl (by omega)) ?_
  refine xl (hc5 a (iV (GB (Ee b a))) (by rw [zr,VT hau];rfl)) rfl (AF ?_)
  refine BD (fun s=>match s.2 with | none=>0 | some q=>q+1) (fun s=>[(0,.func (.yield y) #[] #[]),(1,.pointer (some ⟨p1,0,none⟩)),(2,.pointer (some ⟨p2,0,none⟩)),(4,iV (GB s.2))])
   (fun (s:List Nat×Option Nat) hp=>s.1++G0 a (I3 b a s.2)=HY b a∧(∀q,s.2=some q→q<a∧Di b q=Di b a)∧St B h0 hp (ED p A n c u' b::pt p1 331 [.pointer (some ⟨p,0,none⟩)]::pt p2 3 [nV a]::(JR s.1++F)))
   ([],Ee b a) (Bt rfl rfl rfl rfl) ⟨by rw [Yc (by omega)];rfl,fun q hq=>PV hq,st⟩ ?_
  clear st sto hr5 hc5
  rintro ⟨s,q⟩ hp ⟨hs,hq,st⟩
  simp only at hs hq st ⊢
  refine AH ?_
  by_cases hq1:q.isSome=true
  ·obtain ⟨q',rfl⟩:=Option.isSome_iff_exists.1 hq1
   obtain ⟨hqa,hqk⟩:=hq q' rfl
   refine AT (.bool true) (congrArg Value.bool (decide_eq_true (by simp only [GB];omega))) (AC ?_)
   refine xc st 2 0 ?_
   refine AC ?_
   refine xa (Bk (m:=a) (n:=q') rfl rfl (by omega) (by simp only [AI];omega)) (AF ?_)
   refine AK rfl (fun h=> ?_) (fun h=> ?_)
   ·have hlen:=TW (b:=b) (a:=a) (d:=a-q') (by omega) (by omega) (by omega) (by omega)
    rw [W6 hqk,Wj (by omega)]at hs
    refine AL ?_
    refine xc st 2 0 ?_
    refine AC ?_
    refine xa (Bk (m:=a) (n:=q') rfl rfl (by omega) (by simp only [AI];omega)) ?_
    refine Ia (Io rfl (hround s (a-q') (G0 a (I3 b a (Ee b q'))) u' (pt p1 331 [.pointer (some ⟨p,0,none⟩)]::pt p2 3 [nV a]::F) _ st.low hs (by omega) (by omega) ha (st.here.perm (zb [_,_,_] _ _))) rfl) rfl rfl rfl ?_
    rintro _ hp5 ⟨t,rfl,hT,hF⟩
    refine AC ?_
    refine AT (.bool (decide (t=false))) (congrArg Value.bool (by cases t <;> rfl)) ?_
    refine AC ?_
    refine AK rfl (fun h=> ?_) (fun h=> ?_)
    ·refine AC ?_
     have hb:t=false:=h
     exact ⟨u',_,hun,.inr ⟨s,a-q',_,hs,rfl⟩,st.trans ((hF hb).perm (zb _ [_,_,_] _))⟩
    ·have hb:t=true:=by cases t <;> simp at h ⊢
     replace st:=st.trans ((hT hb).perm (zb _ [_,_,_] _))
     obtain ⟨v6,m6,sto⟩:=St.fin.1 st
     obtain ⟨A6,n6,c6,rfl,hl6,_,_,hr6⟩:=sto.row 0 rfl
     rw [z3,Jm,zf]at hl6
     obtain ⟨g6,o6,rfl,hc6⟩:=hr6.at_ (by rw [z3,Jm];omega)
     refine AF ?_
     refine xc st 1 0 ?_
     refine AB ?_
     refine xc sto 2 2 ?_
     refine AC ?_
     refine xa (C0 (i:=q') rfl rfl rfl (by omega)) ?_
     refine xl (hc6 q' (iV (GB (Ee b q'))) (by rw [zr,VT (by omega)];rfl)) rfl (AB ?_)
     refine Ad (s++[a-q'],Ee b q') (Bt rfl rfl rfl rfl) ⟨by simp only;rw [z8];exact hs,fun r hr=> ?_,st⟩ ?_
     ·obtain ⟨g1,g2⟩:=PV hr
      exact ⟨by omega,g2.trans hqk⟩
     ·simp only
      cases hr:Ee b q' with
      | none=>simp
      | some r=>have:=(PV hr).1;simp only;omega
   ·rw [W6 hqk,fi (by omega),List.append_nil]at hs
    refine AB ?_
    exact ⟨u',_,hun,.inl rfl,by rw [←hs];exact st⟩
  ·obtain rfl:q=none:=by simpa using hq1
   refine AT (.bool false) (congrArg Value.bool (zu (by simp only [GB];omega))) (BP ?_)
   rw [I3,show G0 a []=[]from rfl,List.append_nil]at hs
   exact ⟨u',_,hun,.inl rfl,by rw [←hs];exact st⟩
end Go.Bn
end

/- Packed texts of a claim: what its theorem uses, joined. -/
import GoSem.Core.Utf8
import Derived.Laws.Externs
import Derived.RecoverIn
import Derived.Laws.Cover3
import Derived.Test.YtcakpngelbhkfaaGreatDoorProg
import Derived.Test.YtcakpngelbhkfaaGreatDoorPkTopBetween10
set_option maxRecDepth 100000
set_option maxHeartbeats 4000000
set_option linter.unusedVariables false
set_option linter.unusedSimpArgs false
set_option linter.unusedSectionVars false
set_option linter.defProp false
section
namespace Go.Bn
def HE (m:Av):List UInt8:=[UInt8.ofNat m.meth,UInt8.ofNat m.name.length]++Ay 4 m.at_++Ay 4 m.size++Ay 4 m.area++Ay 4 m.sum++m.name
def Bw (l:List Av):List UInt8:=l.flatMap HE
def S6 (l:List Av):List UInt8:=[70,79,79,84]++Ay 4 l.length++Ay 4 (Bw l).length++Ay 4 (CM (Bw l))
def CV (l:List Av):List UInt8:=Bw l++(S6 l++Ay 4 (CM (S6 l)))
def At (b:List UInt8) (p:Nat) (c:List UInt8):Prop:=∀i,i<c.length→b[p+i]? =c[i]?
theorem At.fits {b:List UInt8} {p:Nat} {c:List UInt8} (h:At b p c):c=[]∨p+c.length≤b.length:=by
 rcases Nat.eq_zero_or_pos c.length with h0 | h0
 ·exact .inl (List.eq_nil_of_length_eq_zero h0)
 ·have:=h (c.length-1) (by omega)
  rw [z9 (by omega:c.length-1<c.length)]at this
  have:=(zc.1 this).1
  exact .inr (by omega)
theorem At.eq {b:List UInt8} {p:Nat} {c:List UInt8} (h:At b p c):(b.drop p).take c.length=c:=by
 refine List.ext_getElem? fun i=> ?_
 rw [List.getElem?_take]
 split
 ·rw [List.getElem?_drop];exact h i (by assumption)
 ·rw [List.getElem?_eq_none (by omega)]
theorem At.left {b:List UInt8} {p:Nat} {c e:List UInt8} (h:At b p (c++e)):At b p c:=fun i hi=>by
 rw [h i (by rw [z2];omega),zi hi]
theorem At.right {b:List UInt8} {p:Nat} {c e:List UInt8} (h:At b p (c++e)):At b (p+c.length) e:=fun i hi=>by
 have:=h (c.length+i) (by rw [z2];omega)
 rw [zh (by omega),Nat.add_sub_cancel_left]at this
 rw [Nat.add_assoc];exact this
theorem At.append {b:List UInt8} {p:Nat} {c e:List UInt8} (h:At b p c) (k:At b (p+c.length) e):At b p (c++e):=fun i hi=>by
 rcases Nat.lt_or_ge i c.length with h1 | h1
 ·rw [h i h1,zi h1]
 ·have:=k (i-c.length) (by rw [z2]at hi;omega)
  rw [zh h1,←this];congr 1;omega
def Da (d:Dk) (p:Nat) (c:List UInt8):Prop:=G7 d p (p+c.length) (List.replicate p 0++c)
theorem Va (p q:Nat) (c:List UInt8) (h:p≤q):(List.replicate p (0:UInt8)++c)[q]? =c[q-p]? :=by
 rw [zh (by rw [zg];exact h),zg]
theorem Mf {b:List UInt8} {p:Nat} {c:List UInt8}:At b p c↔∀q,p≤q→q<p+c.length→b[q]? =(List.replicate p (0:UInt8)++c)[q]? :=by
 constructor
 ·intro h q h1 h2
  rw [Va p q c h1,←h (q-p) (by omega)];congr 1;omega
 ·intro h i hi
  rw [h (p+i) (by omega) (by omega),Va p _ c (by omega),Nat.add_sub_cancel_left]
theorem Da.after {d:Dk} {p:Nat} {c b:List UInt8} (hd:d.ok) (h:Da d p c) (ha:FY d b):At b p c:=Mf.2 fun q h1 h2=>G7.after hd h ha q h1 h2
theorem Da.write {d:Dk} {p:Nat} {c:List UInt8} (hd:d.ok) (h:Da d p c) (hn:At d.now p c) (i:Nat) (e:List UInt8) (hi:i+e.length≤p∨p+c.length≤i):Da (d.write i e) p c∧At (d.write i e).now p c:=by
 obtain ⟨h1,h2⟩:=G7.write hd h (Mf.1 hn) i e hi
 exact ⟨h1,Mf.2 h2⟩
theorem Da.sync {d:Dk} {p:Nat} {c:List UInt8} (hd:d.ok) (hn:At d.now p c) (hl:p+c.length≤d.now.length):Da d.sync p c:=G7.sync hd hl (Mf.1 hn)
theorem Mg {d:Dk} (hd:d.ok) (i:Nat) (c:List UInt8):At (d.write i c).now i c:=fun j hj=>by
 rw [Dk.write_now hd i (fun e=>by rw [e]at hj;cases hj) _ (.inr ⟨by omega,by omega⟩),if_pos ⟨by omega,by omega⟩,Nat.add_sub_cancel_left]
def pl (s:AQ):Nat:=(s.seq%2).toNat
theorem GW (s:AQ):pl s<2:=by unfold pl;omega
structure Et (b:List UInt8) (l:List AS) (s:AQ):Prop where
  len:∃n,b.length=n*512
  slots:∃so:AQ,so.right∧s.right∧so.seq<s.seq∧pl so≠pl s∧CC b (pl so)=so.bytes∧CC b (pl s)=s.bytes
  en:s.en=(1024+(AX l).length:Nat)
  fits:1024+(AX l).length≤b.length
  log:At b 1024 (AX l)
  dir:s.cl=true→s.dir=((CV (mems l)).length:Nat)∧At b (1024+(AX l).length) (CV (mems l))
structure DI (d:Dk) (so s:AQ) (l0 l:List AS):Prop where
  ok:d.ok
  cur:FY d d.now
  rt:so.right∧s.right∧so.seq<s.seq∧pl so≠pl s
  vo:Vs d (pl so) [so.bytes]
  vs:Vs d (pl s) [s.bytes]
  en:s.en=(1024+(AX l0).length:Nat)
  log:Da d 1024 (AX l0)
  pre:AX l0 <+:AX l
  now:At d.now 1024 (AX l)
  fits:1024+(AX l).length≤d.now.length
  dir:s.cl=true→l0=l∧s.dir=((CV (mems l0)).length:Nat)∧Da d (1024+(AX l0).length) (CV (mems l0))∧At d.now (1024+(AX l0).length) (CV (mems l0))
def GI (d:Dk) (L:List (List AS)):Prop:=∀b,FY d b→∃l s,l∈L∧Et b l s
theorem NY {d:Dk} {so s:AQ} {l0 l:List AS} (h:DI d so s l0 l):At d.now 1024 (AX l0):=by
 obtain ⟨t,ht⟩:=h.pre
 have:=h.now
 rw [←ht]at this
 exact this.left
theorem Ow {d:Dk} (h:d.ok):FY d.sync d.sync.now:=⟨rfl,fun k hk=>by
 have hk':k<d.safe.length:=by simpa [Dk.sync]using hk
 have hl:=h.len
 exact ⟨Kg (by rw [show d.sync.now=d.now from rfl];omega),.inl (by simp only [Dk.sync,zr,List.getElem?_range hk',Option.map_some])⟩⟩
theorem SP {d:Dk} (h:d.ok) (hc:FY d d.now) (i:Nat) (c:List UInt8):FY (d.write i c) (d.write i c).now:=by
 rcases Decidable.em (c=[])with e | e
 ·unfold Dk.write;rw [if_pos e];exact hc
 refine ⟨rfl,fun k hk=> ?_⟩
 have hl:=h.len
 have hl2:=(d.write_ok h i c).len
 have h5:(CC (d.write i c).now k).length=512:=Kg (by omega)
 refine ⟨h5,?_⟩
 by_cases hk2:i/512≤k∧k<Ba (i+c.length)
 ·refine .inr (.inr ?_)
  unfold Dk.write
  rw [if_neg e]
  refine List.mem_append_right _ (List.mem_map.2 ⟨k,List.mem_range'_1.2 ⟨hk2.1,by omega⟩,rfl⟩)
 ·rcases Nat.lt_or_ge k d.safe.length with hks | hks
  ·have:CC (d.write i c).now k=CC d.now k:=by
    refine List.ext_getElem? fun j=> ?_
    rcases Nat.lt_or_ge j 512 with hj | hj
    ·rw [Gy _ _ _ hj,Gy _ _ _ hj,Dk.write_now h i e _ (.inl (by omega)),if_neg (by unfold Ba at hk2;omega)]
    ·rw [List.getElem?_eq_none (by omega),List.getElem?_eq_none (by unfold CC;rw [z6];omega)]
   rw [this]
   obtain ⟨_,hv⟩:=hc.ver k hks
   unfold Dk.write
   rw [if_neg e]
   simp only [Dk.grow,zi hks,List.mem_append]
   rcases hv with hv | hv | hv
   ·exact .inl hv
   ·exact .inr (.inl hv)
   ·exact .inr (.inr (.inl hv))
  ·refine .inr (.inl ?_)
   rw [Dk.write_size h i e]at hk
   unfold Dk.write
   rw [if_neg e]
   simp only [Dk.grow]
   rw [zh hks,List.getElem?_replicate,if_pos (by omega)]
theorem M5 {d:Dk} {so s:AQ} {l0:List AS} (hd:d.ok) (rt:so.right∧s.right∧so.seq<s.seq∧pl so≠pl s) (en:s.en=(1024+(AX l0).length:Nat)) (log:Da d 1024 (AX l0))
  (dir:s.cl=true→s.dir=((CV (mems l0)).length:Nat)∧Da d (1024+(AX l0).length) (CV (mems l0))) {b:List UInt8} (ha:FY d b) (h1:CC b (pl so)=so.bytes) (h2:CC b (pl s)=s.bytes):Et b l0 s:=
 ⟨⟨_,ha.len.trans hd.len⟩,⟨so,rt.1,rt.2.1,rt.2.2.1,rt.2.2.2,h1,h2⟩,en,by rw [ha.len];exact log.1,log.after hd ha,fun hc=>⟨(dir hc).1,(dir hc).2.after hd ha⟩⟩
theorem DI.may {d:Dk} {so s:AQ} {l0 l:List AS} (h:DI d so s l0 l):GI d [l0]:=fun b ha=>by
 have h1:=h.vo.after ha
 have h2:=h.vs.after ha
 simp only [zo]at h1 h2
 exact ⟨l0,s,zp,M5 h.ok h.rt h.en h.log (fun hc=>⟨(h.dir hc).2.1,(h.dir hc).2.2.1⟩) ha h1 h2⟩
theorem DI.write {d:Dk} {so s:AQ} {l0 l:List AS} (h:DI d so s l0 l) (hc:s.cl=false) (i:Nat) (c:List UInt8) (hi:1024+(AX l).length≤i):DI (d.write i c) so s l0 l:=by
 have hpre:=h.pre.length_le
 have h0:=GW so
 have h1:=GW s
 obtain ⟨k1,k2⟩:=h.log.write h.ok (NY h) i c (.inr (by omega))
 have hlen:d.now.length≤(d.write i c).now.length:=by
  rcases Decidable.em (c=[])with e | e
  ·unfold Dk.write;rw [if_pos e];exact Nat.le_refl _
  ·rw [h.ok.len,(d.write_ok h.ok i c).len,Dk.write_size h.ok i e];omega
 refine ⟨d.write_ok h.ok i c,SP h.ok h.cur i c,h.rt,h.vo.write h.ok (.inr (by omega)),h.vs.write h.ok (.inr (by omega)),h.en,k1,h.pre,fun j hj=> ?_,zw h.fits hlen,fun hx=>by rw [hc]at hx;cases hx⟩
 rcases Decidable.em (c=[])with e | e
 ·unfold Dk.write;rw [if_pos e];exact h.now j hj
 ·have:=h.fits
  rw [Dk.write_now h.ok i e _ (.inl (by omega)),if_neg (by omega)];exact h.now j hj
theorem DI.lay {d:Dk} {so s:AQ} {l0 l:List AS} (h:DI d so s l0 l) (hc:s.cl=false) (e:AS):DI (d.write (1024+(AX l).length) e.rb) so s l0 (l++[e]):=by
 have hw:=h.write hc (1024+(AX l).length) e.rb (Nat.le_refl _)
 have hat:=Mg h.ok (1024+(AX l).length) e.rb
 refine ⟨hw.ok,hw.cur,hw.rt,hw.vo,hw.vs,hw.en,hw.log,?_,?_,?_,fun hx=>by rw [hc]at hx;cases hx⟩
 ·rw [JU];exact h.pre.trans (List.prefix_append _ _)
 ·rw [JU];exact hw.now.append hat
 ·rw [JU,z2]
  rcases hat.fits with hh | hh
  ·have:=e.rb_len;rw [hh,zk]at this;omega
  ·omega
theorem DI.sync {d:Dk} {so s:AQ} {l0 l:List AS} (h:DI d so s l0 l):DI d.sync so s l0 l:=by
 have h1:=zo.1 (h.vo.after h.cur)
 have h2:=zo.1 (h.vs.after h.cur)
 have e1:=Vs.sync (d:=d) (pl so) h.vo.1
 have e2:=Vs.sync (d:=d) (pl s) h.vs.1
 rw [h1]at e1
 rw [h2]at e2
 exact ⟨d.sync_ok h.ok,Ow h.ok,h.rt,e1,e2,h.en,Da.sync h.ok (NY h) (zw (Nat.add_le_add_left h.pre.length_le _) h.fits),h.pre,h.now,h.fits,fun hc=>⟨(h.dir hc).1,(h.dir hc).2.1,Da.sync h.ok (h.dir hc).2.2.2 (h.dir hc).2.2.1.1,(h.dir hc).2.2.2⟩⟩
theorem DI.put_may {d:Dk} {so s n:AQ} {l0 l l1:List AS} (h:DI d so s l0 l) (hn:n.right) (hq:n.seq=s.seq+1) (hen:n.en=(1024+(AX l1).length:Nat)) (hlog:Da d 1024 (AX l1)) (hnow:At d.now 1024 (AX l1))
  (hdir:n.cl=true→n.dir=((CV (mems l1)).length:Nat)∧Da d (1024+(AX l1).length) (CV (mems l1))∧At d.now (1024+(AX l1).length) (CV (mems l1))):GI (d.write (pl n*512) n.bytes) [l0,l1]:=by
 have b1:=GW s
 have b2:=GW so
 have b3:=GW n
 have hps:pl n≠pl s:=by unfold pl;omega
 have hpo:pl so=pl n:=by have:=h.rt.2.2.2;omega
 have hlen:=n.bytes_length
 have hok:=d.write_ok h.ok (pl n*512) n.bytes
 have vs:=h.vs.write h.ok (i:=pl n*512) (c:=n.bytes) (by rw [hlen];unfold Ba;omega)
 have vn:=Vs.put h.ok (k:=pl n) (L:=[so.bytes]) (by rw [←hpo];exact h.vo) hlen
 have k1:=fun (p:Nat) (c:List UInt8) (hh:Da d p c) (ha:At d.now p c) (h2:1024≤p)=>(Da.write h.ok hh ha (pl n*512) n.bytes (.inl (by rw [hlen];omega))).1
 intro b ha
 have e1:=zo.1 (vs.after ha)
 have e2:=vn.after ha
 simp only [List.mem_cons,zl,or_false]at e2
 rcases e2 with e2 | e2
 ·exact ⟨l1,n,zq _ zp,M5 hok ⟨h.rt.2.1,hn,by omega,fun e=>hps e.symm⟩ hen (k1 _ _ hlog hnow (Nat.le_refl _)) (fun hc=>⟨(hdir hc).1,k1 _ _ (hdir hc).2.1 (hdir hc).2.2 (by omega)⟩) ha e1 e2⟩
 ·exact ⟨l0,s,zp,M5 hok h.rt h.en (k1 _ _ h.log (NY h) (Nat.le_refl _)) (fun hc=>⟨(h.dir hc).2.1,k1 _ _ (h.dir hc).2.2.1 (h.dir hc).2.2.2 (by omega)⟩) ha (by rw [hpo];exact e2) e1⟩
theorem DI.put_di {d:Dk} {so s n:AQ} {l0 l l1:List AS} (h:DI d so s l0 l) (hn:n.right) (hq:n.seq=s.seq+1) (hen:n.en=(1024+(AX l1).length:Nat)) (hpre:AX l1 <+:AX l)
  (hdir:n.cl=true→l1=l∧n.dir=((CV (mems l1)).length:Nat)∧1024+(AX l1).length+(CV (mems l1)).length≤d.now.length∧At d.now (1024+(AX l1).length) (CV (mems l1))):DI (d.write (pl n*512) n.bytes).sync s n l1 l:=by
 have b1:=GW s
 have b2:=GW so
 have b3:=GW n
 have hps:pl n≠pl s:=by unfold pl;omega
 have hpo:pl so=pl n:=by have:=h.rt.2.2.2;omega
 have hlen:=n.bytes_length
 have hne:n.bytes≠[]:=fun e=>by rw [e]at hlen;cases hlen
 have hok:=d.write_ok h.ok (pl n*512) n.bytes
 have hcur:=SP h.ok h.cur (pl n*512) n.bytes
 have vs:=h.vs.write h.ok (i:=pl n*512) (c:=n.bytes) (by rw [hlen];unfold Ba;omega)
 have e1:=zo.1 (vs.after hcur)
 have hfit:=h.fits
 have hdl:=h.ok.len
 have hlen2:d.now.length≤(d.write (pl n*512) n.bytes).now.length:=by rw [h.ok.len,hok.len,Dk.write_size h.ok _ hne];omega
 have hnow:∀p c,1024≤p→p+c.length≤d.now.length→At d.now p c→At (d.write (pl n*512) n.bytes).now p c:=fun p c h1 h2 ha j hj=>by
  rw [Dk.write_now h.ok _ hne _ (.inl (by omega)),if_neg (by omega)];exact ha j hj
 have e2:CC (d.write (pl n*512) n.bytes).now (pl n)=n.bytes:=by
  refine List.ext_getElem? fun j=> ?_
  rcases Nat.lt_or_ge j 512 with hj | hj
  ·rw [Gy _ _ _ hj];exact Mg h.ok (pl n*512) n.bytes j (by omega)
  ·rw [List.getElem?_eq_none (by unfold CC;rw [z6];omega),List.getElem?_eq_none (by omega)]
 have v1:=Vs.sync (d:=d.write (pl n*512) n.bytes) (pl s) vs.1
 have v2:=Vs.sync (d:=d.write (pl n*512) n.bytes) (pl n) (by rw [Dk.write_size h.ok _ hne];omega)
 rw [e1]at v1
 rw [e2]at v2
 have a1:=hnow 1024 (AX l) (Nat.le_refl _) hfit h.now
 have a2:At (d.write (pl n*512) n.bytes).now 1024 (AX l1):=by
  obtain ⟨t,ht⟩:=hpre
  rw [←ht]at a1;exact a1.left
 have hpl:=hpre.length_le
 refine ⟨Dk.sync_ok hok,Ow hok,⟨h.rt.2.1,hn,by omega,fun e=>hps e.symm⟩,v1,v2,hen,Da.sync hok a2 (by omega),hpre,a1,zw hfit hlen2,fun hc=> ?_⟩
 obtain ⟨q1,q2,q3,q4⟩:=hdir hc
 have a3:=hnow _ _ (by omega) q3 q4
 exact ⟨q1,q2,Da.sync hok a3 (by omega),a3⟩
end Go.Bn
end

section
namespace Go.Bn
theorem aU (b:UInt8):BZ [b]=b.toNat:=by show b.toNat+256*0=_;omega
theorem KU {n:Nat} (h:n<256):(UInt8.ofNat n).toNat=n:=by rw [UInt8.toNat_ofNat',Nat.mod_eq_of_lt h]
structure JN (m:Nat) (name:List UInt8) (size area sum:Nat):Prop where
  hn:DU name
  hs:size≤65536
  hu:sum<4294967296
  hm:m=0∧area=size∨m=1∧area<size∨m=2∧size=0∧area=0∧sum=0
theorem JN.m2 {m size area sum:Nat} {name:List UInt8} (h:JN m name size area sum):m≤2∧area≤65536:=by
 have:=h.hm;have:=h.hs;omega
theorem Gs {l:List UInt8} {p n:Nat} (h:At l p (Ay 4 n)) (hn:n<4294967296):BZ ((l.drop p).take 4)=n:=by
 have:=h.eq
 rw [Cs]at this
 rw [this,NI,Nat.mod_eq_of_lt hn]
theorem Mk {l:List UInt8} {p n:Nat} (h:At l p [UInt8.ofNat n]) (hn:n<256):BZ ((l.drop p).take 1)=n:=by
 have:=h.eq
 rw [zm]at this
 rw [this,aU,KU hn]
theorem At.len {b c:List UInt8} {p:Nat} (h:At b p c) (hc:0<c.length):p+c.length≤b.length:=by
 rcases h.fits with e | e
 ·rw [e]at hc;simp at hc
 ·exact e
theorem At.at0 {b c:List UInt8} {p:Nat} (h:At b p c):At (b.drop p) 0 c:=fun i hi=>by rw [List.getElem?_drop,Nat.zero_add];exact h i hi
theorem At.take0 {l c:List UInt8} (h:At l 0 c):l.take c.length=c:=by have:=h.eq;rwa [List.drop_zero]at this
theorem TI {l name:List UInt8} {m size area sum:Nat} (h:At l 0 (F3 m name size area sum)):
  At l 0 [76,77,66,82]∧At l 4 [UInt8.ofNat m]∧At l 5 [UInt8.ofNat name.length]∧At l 6 (Ay 4 size)∧At l 10 (Ay 4 area)∧At l 14 (Ay 4 sum)∧At l 18 name∧At l (18+name.length) (Ay 4 (CM (FO m name size area sum)))∧l.take (18+name.length)=FO m name size area sum:=by
 have h0:At l 0 (FO m name size area sum):=h.left
 have e0:=h.right
 have e1:=h0.take0
 rw [M6]at e0 e1
 rw [Nat.zero_add]at e0
 unfold FO at h0
 have a1:=h0.left.left.left.left.left
 have a2:=h0.left.left.left.left.right
 have a3:=h0.left.left.left.right
 have a4:=h0.left.left.right
 have a5:=h0.left.right
 have a6:=h0.right
 simp only [z2,ze,zk,Cs,Nat.reduceAdd,Nat.zero_add]at a2 a3 a4 a5 a6
 exact ⟨a1,At.left (c:=[UInt8.ofNat m]) (e:=[UInt8.ofNat name.length]) a2,At.right (c:=[UInt8.ofNat m]) (e:=[UInt8.ofNat name.length]) a2,a3,a4,a5,a6,e0,e1⟩
end Go.Bn
end

section
namespace Go.Bn
open Go
theorem eI (P:Program) (n:Nat) (hn:0<n) (w:World):∃i w',i<n∧(choose (.mapNext n)).run P w= .ok i w'∧B8 w w'∧w'.heap=w.heap:=by
 unfold choose
 by_cases h:n≤1
 ·exact ⟨0,w,hn,by simp [Sem.run,Question.forced,h],B8.refl w,rfl⟩
 ·exact ⟨w.tape w.drawn (.mapNext n)%n,{w with drawn:=w.drawn+1},Nat.mod_lt _ hn,by simp [Sem.run,Question.forced,h,Question.cut],⟨rfl,rfl,rfl⟩,rfl⟩
def I0 (es:Array MapEntry) (seen:Array Nat):List MapEntry:=es.toList.filter fun e=> !seen.contains e.born
def JV {α:Type} (kv:α→Value) (p q:Nat) (es:Array MapEntry) (ck:Nat) (rem:List (α×Value)) (last:Option (α×Value)):AE:=Cb fun (seen:Array Nat)=>
  Fb ((I0 es seen).map (fun e=>(e.key,e.val))=rem.map (fun r=>(kv r.1,r.2))∧∀r,last=some r→∃e∈es.toList,e.key=kv r.1∧e.val=r.2∧seen.back? =some e.born) (BG q (.mapIter (some p) ck seen ck))
section
variable {P:Program} {E:Au} {hp:AA} {cl:Ca} {d:Option Tmp} {ty:TypeId} {pos:String} {af:Array Edge} {g:Option (Nat×Bool)}
variable {x y z:Operand} {t t':TypeId} {α:Type} [DecidableEq α] {kv:α→Value} {D:TypeDesc} {zv:Value}
theorem bD {es:Array MapEntry} {ck:Nat} {f:α→Option Value} (h:DK kv es ck f) (hi:GH D kv):∃rem:List (α×Value),es.toList.map (fun e=>(e.key,e.val))=rem.map (fun r=>(kv r.1,r.2))∧∀k v,(k,v)∈rem↔f k=some v:=by
 have key:∀l:List MapEntry,(∀e∈l,∃k,e.key=kv k)→∃rem:List (α×Value),l.map (fun e=>(e.key,e.val))=rem.map (fun r=>(kv r.1,r.2)):=by
  intro l
  induction l with
  | nil=>exact fun _=>⟨[],rfl⟩
  | cons e r ih=>
   intro hk
   obtain ⟨rem,hr⟩:=ih fun e he=>hk e (zq _ he)
   obtain ⟨k,hk⟩:=hk e zp
   exact ⟨(k,e.val)::rem,by rw [zj,zj,hr,hk]⟩
 obtain ⟨rem,hr⟩:=key _ h.keys
 refine ⟨rem,hr,fun k v=> ?_⟩
 rw [h.all]
 constructor
 ·intro hm
  have:(kv k,v)∈es.toList.map (fun e=>(e.key,e.val)):=by rw [hr];exact List.mem_map.2 ⟨_,hm,rfl⟩
  obtain ⟨e,he,hh⟩:=List.mem_map.1 this
  simp only [Prod.mk.injEq]at hh
  exact ⟨e,he,hh.1,hh.2⟩
 ·rintro ⟨e,he,h1,h2⟩
  have:(kv k,v)∈rem.map (fun r=>(kv r.1,r.2)):=by rw [←hr];exact List.mem_map.2 ⟨e,he,by rw [h1,h2]⟩
  obtain ⟨⟨k',v'⟩,hm,hh⟩:=List.mem_map.1 this
  simp only [Prod.mk.injEq]at hh
  obtain ⟨h3,rfl⟩:=hh
  rw [hi.inj h3]at hm
  exact hm
theorem Ui {B:Nat} {h0:AA} {rs:List AE} (hi:GH D kv) {p:Nat} {f:α→Option Value} {es:Array MapEntry} {ck:Nat} (hes:DK kv es ck f) (hb:hp[p]? =some (.map es ck)) (st:St B h0 hp rs) (hx:ev E x=some (.map (some p)))
  (ht:Hi P t=some (D,zv)):Bd P ⟨d,.range t x,ty,pos,af,g⟩ E hp (fun u hp'=>AV hp hp'∧∃q rem,u= .pointer (some ⟨q,0,none⟩)∧(∀k v,(k,v)∈rem↔f k=some v)∧(∀ks:List α,(∀k v,f k=some v→k∈ks)→rem.length≤ks.length)∧St B h0 hp' (JV kv p q es ck rem none::rs)):=by
 intro n a w ho hw K hK
 subst hw
 obtain ⟨kt,e,hu,hk,_⟩:=JW ht
 obtain ⟨rem,hrem,hall⟩:=bD hes hi
 have hrun:(execOp a.eval ⟨d,.range t x,ty,pos,af,g⟩).run P w= .ok (.value (.pointer (some ⟨w.heap.size,0,none⟩))) {w with heap:=w.heap.push (.mapIter (some p) ck #[] ck)}:=by
  simp [execOp,ho.eval hx,Instr.range,run_underlying hu,MapKept.run_getObj_map hb]
 simp only [Oper.wp,hrun,Oper.upon]
 have hn:=Ik (.mapIter (some p) ck #[] ck) w.heap
 refine hK _ _ ⟨rfl,rfl,rfl⟩ ⟨hn.1,w.heap.size,rem,rfl,hall,fun ks hf=> ?_,?_⟩
 ·have hsub:es.toList.map (·.key) ⊆ ks.map kv:=fun v hv=>by
   obtain ⟨e,he,rfl⟩:=List.mem_map.1 hv
   obtain ⟨k,hk⟩:=hes.keys e he
   exact List.mem_map.2 ⟨k,hf k e.val ((hes.all k e.val).2 ⟨e,he,hk,rfl⟩),hk.symm⟩
  have h1:=List.Nodup.length_le_of_subset hes.st.2.2 hsub
  have h2:=congrArg List.length hrem
  simp only [z3]at h1 h2
  omega
 ·exact St.ex.2 ⟨#[],St.and.2 ⟨⟨by rw [←hrem];unfold I0;rw [List.filter_eq_self.2 (fun e _=>by simp)],fun _ h=>by cases h⟩,st.new hn⟩⟩
theorem Pe {β γ:Type} (f:β→γ):∀ (l:List β) (i:Nat),(l.eraseIdx i).map f=(l.map f).eraseIdx i
 | [],_=>by simp
 | x::r,0=>by simp
 | x::r,i+1=>by simp [Pe f r i]
theorem O3 (p:MapEntry→Bool):∀ (l:List MapEntry) (i:Nat) (e:MapEntry),(l.filter p)[i]? =some e→(l.map (·.born)).Nodup→l.filter (fun x=>p x&& !(x.born==e.born))=(l.filter p).eraseIdx i
 | [],i,e,h,_=>by simp at h
 | x::r,i,e,h,hn=>by
  obtain ⟨hn1,hn2⟩:=List.nodup_cons.1 hn
  rw [List.filter_cons]at h
  rw [List.filter_cons,List.filter_cons]
  cases hp:p x with
  | false=>
   rw [hp]at h
   simp only [Bool.false_and,Bool.false_eq_true,if_false]at h ⊢
   exact O3 p r i e h hn2
  | true=>
   rw [hp]at h
   simp only [if_true,Bool.true_and]at h ⊢
   cases i with
   | zero=>
    simp only [List.getElem?_cons_zero,Option.some.injEq]at h
    subst h
    rw [if_neg (by simp),List.eraseIdx_cons_zero]
    refine List.filter_congr fun y hy=> ?_
    have:y.born≠x.born:=fun hh=>hn1 (List.mem_map.2 ⟨y,hy,hh⟩)
    simp [this]
   | succ i=>
    rw [List.getElem?_cons_succ]at h
    have he:e∈r:=(List.mem_filter.1 (List.mem_of_getElem? h)).1
    have:x.born≠e.born:=fun hh=>hn1 (List.mem_map.2 ⟨e,he,hh.symm⟩)
    rw [if_pos (by simp [this]),List.eraseIdx_cons_succ,O3 p r i e h hn2]
theorem Uh {B:Nat} {h0:AA} {rs:List AE} (j:Nat) {p q:Nat} {f:α→Option Value} {es:Array MapEntry} {ck:Nat} {rem:List (α×Value)} {last:Option (α×Value)} (hes:DK kv es ck f) (hb1:hp[p]? =some (.map es ck)) (st:St B h0 hp rs) (hj:rs[j]? =some (JV kv p q es ck rem last)) (hx:ev E x=some (.pointer (some ⟨q,0,none⟩))):
  Bd P ⟨d,.next x false,ty,pos,af,g⟩ E hp (fun u hp'=>(rem=[]∧u= .tuple #[.bool false]∧hp=hp')∨∃i k v,rem[i]? =some (k,v)∧u= .tuple #[.bool true,kv k,v]∧hp'[p]? =some (.map es ck)∧St B h0 hp' (rs.set j (JV kv p q es ck (rem.eraseIdx i) (some (k,v))))):=by
 intro n a w ho hw K hK
 subst hw
 obtain ⟨S,⟨seen,⟨hrem,_⟩,hS2,hb2⟩,_⟩:=st.at_ hj
 have hlt:∀e∈es.toList,e.born<ck:=hes.st.1
 have hall:(!seen.isEmpty&& !es.isEmpty&&es.all (fun e=>decide (e.born≥ck)))=false:=by
  cases he:es.isEmpty with
  | true=>simp
  | false=>
   have:es.all (fun e=>decide (e.born≥ck))=false:=by
    rw [Array.all_eq_false]
    have hs:0<es.size:=by
     rcases Nat.eq_zero_or_pos es.size with h | h
     ·simp [Array.isEmpty,h]at he
     ·exact h
    refine ⟨0,hs,?_⟩
    have:=hlt es[0] (Array.mem_toList_iff.2 (Array.getElem_mem hs))
    simp only [decide_eq_true_eq];omega
   rw [this,Bool.and_false]
 have hold:(es.filter fun e=> !seen.contains e.born).filter (fun e=>decide (e.born<ck))=es.filter fun e=> !seen.contains e.born:=by
  apply Array.ext'
  rw [Array.toList_filter,Array.toList_filter]
  exact List.filter_eq_self.2 fun e he=>decide_eq_true (hlt e (List.mem_filter.1 he).1)
 have hnew:(es.filter fun e=> !seen.contains e.born).filter (fun e=>decide (e.born≥ck))= #[]:=by
  apply Array.ext'
  rw [Array.toList_filter,Array.toList_filter]
  exact List.filter_eq_nil_iff.2 fun e he=>by have:=hlt e (List.mem_filter.1 he).1;simp only [decide_eq_true_eq];omega
 have hU:(es.filter fun e=> !seen.contains e.born).toList=I0 es seen:=by rw [Array.toList_filter];rfl
 have hg:(getObj q).run P w= .ok (.mapIter (some p) ck seen ck) w:=by simp [getObj,Sem.run,hb2]
 have hlen:(I0 es seen).length=rem.length:=by have:=congrArg List.length hrem;simpa using this
 obtain ⟨LF,hLF⟩:∃LF,(es.filter fun e=> !seen.contains e.born)=LF:=⟨_,rfl⟩
 rw [hLF]at hold hnew hU
 have hsz:LF.size=rem.length:=by rw [←Array.length_toList,hU,hlen]
 rcases Nat.eq_zero_or_pos rem.length with h0r | h0r
 ·have hr0:rem=[]:=List.eq_nil_of_length_eq_zero h0r
  have hE:LF= #[]:=Array.eq_empty_of_size_eq_zero (by omega)
  subst hE
  have hnx:(Instr.next (.pointer (some ⟨q,0,none⟩)) false ty).run P w= .ok (.tuple #[.bool false]) w:=by
   unfold Instr.next
   simp only [Sem.run_bind,hg,Result.andThen_ok,MapKept.run_getObj_map hb1,hall,Bool.false_eq_true,if_false,hLF]
   simp [Question.forced]
  have hrun:(execOp a.eval ⟨d,.next x false,ty,pos,af,g⟩).run P w= .ok (.value (.tuple #[.bool false])) w:=by
   simp [execOp,ho.eval hx,hnx]
  simp only [Oper.wp,hrun,Oper.upon]
  exact hK _ _ (B8.refl w) (.inl ⟨hr0,rfl,rfl⟩)
 ·have hne:LF.isEmpty=false:=by
   rw [Array.isEmpty_eq_false_iff];intro h;rw [h]at hsz;simp at hsz;omega
  obtain ⟨i,w',hi,hrunc,hinv,hh⟩:=eI P LF.size (by omega) w
  have hgi:LF[i]? =some LF[i]:=Array.getElem?_eq_getElem hi
  obtain ⟨e,hE⟩:∃e,LF[i]=e:=⟨_,rfl⟩
  rw [hE]at hgi
  have hul:(I0 es seen)[i]? =some e:=by rw [←hU,Array.getElem?_toList];exact hgi
  have hri:∃k v,rem[i]? =some (k,v)∧e.key=kv k∧e.val=v:=by
   have:=congrArg (fun l:List (Value×Value)=>l[i]?) hrem
   simp only [zr,hul,Option.map_some]at this
   cases hr:rem[i]? with
   | none=>rw [hr]at this;cases this
   | some r=>rw [hr]at this;simp only [Option.map_some,Option.some.injEq,Prod.mk.injEq]at this;exact ⟨r.1,r.2,rfl,this.1,this.2⟩
  obtain ⟨k,v,hr,hek,hev⟩:=hri
  have hb2':w'.heap[q]? =some (.mapIter (some p) ck seen ck):=by rw [hh];exact hb2
  have hset:(setObj q (.mapIter (some p) ck (seen.push e.born) ck)).run P w'= .ok () {w' with heap:=w'.heap.setIfInBounds q (.mapIter (some p) ck (seen.push e.born) ck)}:=by simp [setObj,Sem.run,hb2']
  have hrun:(execOp a.eval ⟨d,.next x false,ty,pos,af,g⟩).run P w= .ok (.value (.tuple #[.bool true,kv k,v])) {w' with heap:=w'.heap.setIfInBounds q (.mapIter (some p) ck (seen.push e.born) ck)}:=by
   have hnx:(Instr.next (.pointer (some ⟨q,0,none⟩)) false ty).run P w= .ok (.tuple #[.bool true,kv k,v]) {w' with heap:=w'.heap.setIfInBounds q (.mapIter (some p) ck (seen.push e.born) ck)}:=by
    unfold Instr.next
    simp only [Sem.run_bind,hg,Result.andThen_ok,MapKept.run_getObj_map hb1,hall,Bool.false_eq_true,if_false,hLF,hold,hnew,hne,Array.append_empty,Array.empty_append,Array.size_map,hrunc,Result.andThen_ok,Array.getElem?_map,hgi,Option.map_some]
    simp [hset,hek,hev]
   simp [execOp,ho.eval hx,hnx]
  simp only [Oper.wp,hrun,Oper.upon]
  refine hK _ _ ⟨hinv.os,hinv.tape,hinv.output⟩ (.inr ⟨i,k,v,hr,rfl,?_⟩)
  simp only [hh]
  have hpq:p≠q:=fun e=>by rw [e]at hb1;rw [hb1]at hb2;cases hb2
  have hq:q<w.heap.size:=(Array.getElem?_eq_some_iff.1 hb2).1
  refine ⟨by simp only [Array.getElem?_setIfInBounds_ne (Ne.symm hpq)];exact hb1,st.upd hj ⟨by simp,fun S' hS'=> ?_⟩⟩
  obtain ⟨seen1,_,hT2,hc2⟩:=hS'
  refine ⟨S',⟨seen.push e.born,⟨?_,fun r hr=> ?_⟩,hT2,?_⟩,fun k hk=> .inl hk,fun m _ hm=> ?_⟩
  ·have hfe:=O3 (fun e=> !seen.contains e.born) es.toList i e hul hes.st.2.1
   have:I0 es (seen.push e.born)=(I0 es seen).eraseIdx i:=by
    unfold I0
    rw [←hfe]
    refine List.filter_congr fun y _=> ?_
    rw [Array.contains_push,Bool.not_or,Bool.and_comm]
   rw [this,Pe,Pe,hrem]
  ·cases hr
   exact ⟨e,(List.mem_filter.1 (List.mem_of_getElem? hul)).1,hek,hev,by simp⟩
  ·simp [hq]
  ·exact Array.getElem?_setIfInBounds_ne fun e=>hm ((hT2 m).2 e.symm)
theorem Ug {B:Nat} {h0:AA} {rs:List AE} {f:α→Option Value} {p q:Nat} {es:Array MapEntry} {ck:Nat} (hes:DK kv es ck f) (hb1:hp[p]? =some (.map es ck)) (st:St B h0 hp rs) (j:Nat) {rem:List (α×Value)} {k:α} {v:Value} (hj:rs[j]? =some (JV kv p q es ck rem (some (k,v)))) (hx:ev E x=some (.pointer (some ⟨q,0,none⟩))):
  Bd P ⟨d,.entry x,ty,pos,af,g⟩ E hp (fun u hp'=>u= .tuple #[kv k,v]∧hp=hp'):=by
 intro n a w ho hw K hK
 subst hw
 obtain ⟨S,⟨seen,⟨hrem,hlast⟩,hS2,hb2⟩,_⟩:=st.at_ hj
 obtain ⟨e,he,hek,hev,hbk⟩:=hlast _ rfl
 have hg:(getObj q).run P w= .ok (.mapIter (some p) ck seen ck) w:=by simp [getObj,Sem.run,hb2]
 have hf:es.find? (fun y=>y.born==e.born)=some e:=by
  rw [←Array.find?_toList]
  have hnd:=hes.st.2.1
  have key:∀l:List MapEntry,(l.map (·.born)).Nodup→e∈l→l.find? (fun y=>y.born==e.born)=some e:=by
   intro l
   induction l with
   | nil=>intro _ h;cases h
   | cons y r ih=>
    intro hn hm
    obtain ⟨hn1,hn2⟩:=List.nodup_cons.1 hn
    rw [List.find?_cons]
    by_cases hy:y.born=e.born
    ·rcases List.mem_cons.1 hm with rfl | hm
     ·simp
     ·exact absurd (List.mem_map.2 ⟨e,hm,hy.symm⟩) hn1
    ·have hb:(y.born==e.born)=false:=by simpa using hy
     rw [hb]
     exact ih hn2 ((List.mem_cons.1 hm).resolve_left fun h=>hy (by rw [h]))
  exact key _ hnd he
 have hrun:(execOp a.eval ⟨d,.entry x,ty,pos,af,g⟩).run P w= .ok (.value (.tuple #[kv k,v])) w:=by
  simp [execOp,ho.eval hx,Instr.entry,hg,hbk,MapKept.run_getObj_map hb1,hf,hek,hev]
 simp only [Oper.wp,hrun,Oper.upon]
 exact hK _ _ (B8.refl w) ⟨rfl,rfl⟩
theorem St.mapBlk {B:Nat} {h0:AA} {rs:List AE} {p:Nat} {f:α→Option Value}:St B h0 hp (Dj kv p f::rs)↔∃es ck,DK kv es ck f∧St B h0 hp (BG p (.map es ck)::rs):=
 ⟨fun st=>by obtain ⟨⟨es,ck⟩,st⟩:=St.ex.1 st;obtain ⟨h,st⟩:=St.and.1 st;exact ⟨es,ck,h,st⟩,fun ⟨es,ck,h,st⟩=>St.ex.2 ⟨(es,ck),St.and.2 ⟨h,st⟩⟩⟩
end
end Go.Bn
end

section
namespace Go.Bn
open Go
theorem ZE {s:ByteArray} {i:Nat} (h:(s.get! i).toNat<128):Utf8.decode s i=((s.get! i).toNat,1):=by
 unfold Utf8.decode
 simp only [Nat.add_zero]
 rw [if_pos h]
theorem ZD {s:ByteArray} {i:Nat} (h:128≤(s.get! i).toNat):128≤(Utf8.decode s i).1:=by
 unfold Utf8.decode
 simp only [Nat.add_zero,Utf8.runeError]
 rw [if_neg (by omega)]
 repeat' split
 all_goals first | (simp only [Nat.reduceLeDiff];done) | (simp only [ge_iff_le,Bool.and_eq_true,decide_eq_true_eq]at*;omega) | simp
section
variable {P:Program} {E:Au} {hp:AA} {cl:Ca} {d:Option Tmp} {ty:TypeId} {pos:String} {af:Array Edge} {g:Option (Nat×Bool)}
variable {x y z:Operand} {t t':TypeId} {D:TypeDesc} {zv:Value}
theorem cS {s:ByteArray} (hx:ev E x=some (.string s)) (ht:Ed P t=true):Bd P ⟨d,.range t x,ty,pos,af,g⟩ E hp (fun u hp'=>∃q,u= .pointer (some ⟨q,0,none⟩)∧EZ (BG q (.stringIter s 0)) hp hp'):=by
 intro n a w ho hw K hK
 subst hw
 have hu:P.underlying t=some .string:=by
  unfold Ed at ht
  split at ht
  ·assumption
  ·cases ht
 have hrun:(execOp a.eval ⟨d,.range t x,ty,pos,af,g⟩).run P w= .ok (.value (.pointer (some ⟨w.heap.size,0,none⟩))) {w with heap:=w.heap.push (.stringIter s 0)}:=by
  simp [execOp,ho.eval hx,Instr.range,run_underlying hu]
 simp only [Oper.wp,hrun,Oper.upon]
 exact hK _ _ ⟨rfl,rfl,rfl⟩ ⟨_,rfl,Ik _ _⟩
theorem cR {B:Nat} {h0:AA} {rs:List AE} (st:St B h0 hp rs) (j:Nat) {q i:Nat} {l:List UInt8} (hj:rs[j]? =some (BG q (.stringIter (str l) i))) (hx:ev E x=some (.pointer (some ⟨q,0,none⟩))):
  Bd P ⟨d,.next x true,ty,pos,af,g⟩ E hp (fun u hp'=>(l.length≤i∧u= .tuple #[.bool false]∧hp=hp')∨∃b c wd,l[i]? =some b∧(b.toNat<128→c=b.toNat∧wd=1)∧(128≤b.toNat→128≤c)∧u= .tuple #[.bool true,.int .i64 (i:Int),.int .i32 (c:Nat)]∧St B h0 hp' (rs.set j (BG q (.stringIter (str l) (i+wd))))):=by
 intro n a w ho hw K hK
 subst hw
 have hb:=st.obj_at j hj
 have hg:(getObj q).run P w= .ok (.stringIter (str l) i) w:=by simp [getObj,Sem.run,hb]
 rcases Nat.lt_or_ge i l.length with hi | hi
 ·have hgi:(str l).get! i=l[i]:=by
   simp [str,ByteArray.get!,hi]
  obtain ⟨⟨c,wd⟩,hD⟩:∃D,Utf8.decode (str l) i=D:=⟨_,rfl⟩
  have hset:(setObj q (.stringIter (str l) (i+wd))).run P w= .ok () {w with heap:=w.heap.setIfInBounds q (.stringIter (str l) (i+wd))}:=by simp [setObj,Sem.run,hb]
  have hrun:(execOp a.eval ⟨d,.next x true,ty,pos,af,g⟩).run P w= .ok (.value (.tuple #[.bool true,.int .i64 (i:Int),.int .i32 (c:Nat)])) {w with heap:=w.heap.setIfInBounds q (.stringIter (str l) (i+wd))}:=by
   simp [execOp,ho.eval hx,Instr.next,hg,HO,hi,hD,hset,goInt]
  simp only [Oper.wp,hrun,Oper.upon]
  refine hK _ _ ⟨rfl,rfl,rfl⟩ (.inr ⟨l[i],c,wd,z9 hi,fun h=> ?_,fun h=> ?_,rfl,st.put j _ hj⟩)
  ·have:=ZE (s:=str l) (i:=i) (by rw [hgi];exact h)
   rw [hD,hgi]at this
   cases this
   exact ⟨rfl,rfl⟩
  ·have:=ZD (s:=str l) (i:=i) (by rw [hgi];exact h)
   rw [hD]at this
   exact this
 ·have hrun:(execOp a.eval ⟨d,.next x true,ty,pos,af,g⟩).run P w= .ok (.value (.tuple #[.bool false])) w:=by
   simp [execOp,ho.eval hx,Instr.next,hg,HO,show ¬i<l.length by omega]
  simp only [Oper.wp,hrun,Oper.upon]
  exact hK _ _ (B8.refl w) (.inl ⟨hi,rfl,rfl⟩)
end
end Go.Bn
end

section
namespace Go.Bn
open Go
section
variable {P:Program} {E:Au} {hp:AA} {cl:Ca} {d:Option Tmp} {ty:TypeId} {pos:String} {af:Array Edge} {g:Option (Nat×Bool)}
variable {x y z:Operand} {t t':TypeId}
structure MU (P:Program) (f:FuncId) (e:Array Value→Sem Value):Prop where
  run:∀ (args:Array Value) (w:World),(callFunc f args).run P w=((e args).run P w).andThen fun v w'=> .ok (.value v) w'
theorem LG {f:FuncId} {fn:Func} {e:Array Value→Sem Value} (hf:P.funcs[f]? =some fn) (hname:(fn.name== "runtime.NumGoroutine")=false) (hb:fn.body.isNone=true) (hn:Extern.findNext fn=none) (he:Extern.find fn=some e):MU P f e:=
 ⟨fun args w=>by rw [run_callFunc_extern hf hname hb hn he];try rfl⟩
theorem Pw {f:FuncId} {e:Array Value→Sem Value} {args:Array Operand} {ts:Array TypeId} {vs:List Value} {v:Value} (he:MU P f e) (hargs:HG E args.toList=some vs) (hr:∀w:World,(e vs.toArray).run P w= .ok v w):
  BB cl P ⟨d,.call ⟨.value (.func f),args,ts⟩,ty,pos,af,g⟩ E hp v:= .of_pure fun n a ho w=>by
 have ha:args.map a.eval=vs.toArray:=by
  apply Array.toList_inj.1
  rw [Array.toList_map,ho.evals hargs]
 simp [execOp,resolve,Act.eval,Deferred.ofValue,invoke,ha,he.run,hr w]
theorem b5 {a b:List UInt8} (hx:ev E x=some (.string (str a))) (hy:ev E y=some (.string (str b))):BB cl P ⟨d,.binOp .geq t x y t',ty,pos,af,g⟩ E hp (.bool (!Go.Op.bytesLess a b)):=
 .of_pure fun n a ho w=>by simp [execOp,ho.eval hx,ho.eval hy,eqGuard,binOp,Op.stringOp,Ki]
theorem cA {a b:List UInt8} (hx:ev E x=some (.string (str a))) (hy:ev E y=some (.string (str b))):BB cl P ⟨d,.binOp .leq t x y t',ty,pos,af,g⟩ E hp (.bool (Go.Op.bytesLess a b||a==b)):=
 .of_pure fun n a ho w=>by simp [execOp,ho.eval hx,ho.eval hy,eqGuard,binOp,Op.stringOp,Ki]
end
theorem R0 (b:UInt8):(b.toNat:Int).toNat.toUInt8=b:=by simp
end Go.Bn
end

section
namespace Go.Bn
open Go
section
variable {α β:Type} {f:α→β→AE} {B:Nat} {h0 hp:AA} {F:List AE}
def C4 {α β:Type} (f:α→β→AE):List α→List β→AE
  | a::axs,b::bs=>CD (f a b) (C4 f axs bs)
  | [],[]=>emp
  | _,_=>Fb False emp
def MS {α β:Type} (f:α→β→AE):List α→List β→Nat→AE
  | _::axs,_::bs,0=>C4 f axs bs
  | a::axs,b::bs,i+1=>CD (f a b) (MS f axs bs i)
  | _,_,_=>emp
theorem St.sw {a b:AE} (st:St B h0 hp (a::b::F)):St B h0 hp (b::a::F):=st.perm (List.Perm.swap _ _ _)
theorem St.rot3 {a b c:AE} (st:St B h0 hp (a::b::c::F)):St B h0 hp (b::c::a::F):=st.perm ((List.Perm.swap _ _ _).trans ((List.Perm.swap _ _ _).cons _))
theorem St.zip_nil:St B h0 hp (C4 f [] []::F)↔St B h0 hp F:=St.emp
theorem St.zip_cons {a:α} {b:β} {axs:List α} {bs:List β}:St B h0 hp (C4 f (a::axs) (b::bs)::F)↔St B h0 hp (f a b::C4 f axs bs::F):=St.star
theorem St.zip_len:∀ {axs:List α} {bs:List β} {F:List AE},St B h0 hp (C4 f axs bs::F)→axs.length=bs.length
 | [],[],_,_=>rfl
 | [],_::_,_,st=>(St.and.1 st).1.elim
 | _::_,[],_,st=>(St.and.1 st).1.elim
 | a::axs,b::bs,F,st=>congrArg (· +1) (St.zip_len (St.zip_cons.1 st).tail)
theorem St.zip_get {a:α} {b:β}:∀ {axs:List α} {bs:List β} {i:Nat} {F:List AE},axs[i]? =some a→bs[i]? =some b→(St B h0 hp (C4 f axs bs::F)↔St B h0 hp (f a b::MS f axs bs i::F))
 | [],_,_,_,h,_=>by simp at h
 | _::_,[],_,_,_,h=>by simp at h
 | a0::axs,b0::bs,0,F,ha,hb=>by
  simp at ha hb;subst ha hb;exact St.zip_cons
 | a0::axs,b0::bs,i+1,F,ha,hb=>by
  simp only [List.getElem?_cons_succ]at ha hb
  constructor
  ·intro st
   exact (St.star.2 ((St.zip_get ha hb).1 (St.zip_cons.1 st).sw).rot3.sw).sw
  ·intro st
   exact St.zip_cons.2 ((St.zip_get ha hb).2 (St.star.1 st.sw).rot3.sw).sw
theorem St.zip_set {a':α} {b':β}:∀ {axs:List α} {bs:List β} {i:Nat} {F:List AE},i<axs.length→i<bs.length→St B h0 hp (f a' b'::MS f axs bs i::F)→St B h0 hp (C4 f (axs.set i a') (bs.set i b')::F)
 | [],_,_,_,h,_=>fun _=>by simp at h
 | _::_,[],_,_,_,h=>fun _=>by simp at h
 | a0::axs,b0::bs,0,F,ha,hb=>fun st=>St.zip_cons.2 st
 | a0::axs,b0::bs,i+1,F,ha,hb=>fun st=>by
  simp only [ze,Nat.add_lt_add_iff_right]at ha hb
  exact St.zip_cons.2 (St.zip_set ha hb (St.star.1 st.sw).rot3.sw).sw
theorem St.zip_snoc {a:α} {b:β}:∀ {axs:List α} {bs:List β} {F:List AE},St B h0 hp (C4 f axs bs::f a b::F)→St B h0 hp (C4 f (axs++[a]) (bs++[b])::F)
 | [],[],F,st=>St.zip_cons.2 (St.zip_nil.2 (St.zip_nil.1 st)).sw
 | [],_::_,_,st=>(St.and.1 st).1.elim
 | _::_,[],_,st=>(St.and.1 st).1.elim
 | a0::axs,b0::bs,F,st=>St.zip_cons.2 (St.zip_snoc ((St.zip_cons.1 st).rot3)).sw
theorem St.zip_rep {a:α} {b:β} (h:∀ {F:List AE},St B h0 hp F→St B h0 hp (f a b::F)) {axs:List α} {bs:List β}:∀ (m:Nat) {F:List AE},St B h0 hp (C4 f axs bs::F)→St B h0 hp (C4 f (axs++List.replicate m a) (bs++List.replicate m b)::F)
 | 0,F,st=>by simpa using st
 | m+1,F,st=>by
  rw [List.replicate_succ',List.replicate_succ',←z8,←z8]
  exact St.zip_snoc (h (St.zip_rep h m st)).sw
end
def BV:Nat→List AE→List AE
  | 0,rs=>rs
  | n+1,_::rs=>BV n rs
  | _+1,[]=>[]
theorem SY:∀ (n:Nat) (rs:List AE),BV n rs=rs.drop n
 | 0,rs=>rfl
 | n+1,_::rs=>SY n rs
 | n+1,[]=>by simp [BV]
def BU:List Nat→Nat→List AE→List AE
  | i::is,n,rs=>An rs i::BU is n rs
  | [],n,rs=>BV n rs
theorem V5 (n:Nat) (rs:List AE):∀Cf:List Nat,BU Cf n rs=Cf.map (An rs)++rs.drop n
 | []=>SY n rs
 | i::is=>by rw [BU,V5 n rs is];rfl
theorem Zu {rs:List AE} {n:Nat} (h:n≤rs.length):(List.range n).map (An rs)=rs.take n:=by
 have e:=congrArg (List.take n) (PC rs)
 rw [←e,←List.map_take,List.take_range,Nat.min_eq_left h]
theorem VJ:∀ {Cf l:List Nat},Cf.Nodup→(∀i∈Cf,i∈l)→∃rest,l.Perm (Cf++rest)
 | [],l,_,_=>⟨l,List.Perm.refl _⟩
 | i::is,l,hn,h=>by
  obtain ⟨h1,h2⟩:=List.nodup_cons.1 hn
  obtain ⟨rest,hr⟩:=VJ (l:=l.erase i) h2 fun j hj=>(List.mem_erase_of_ne (fun (e:j=i)=>h1 (e▸hj))).2 (h j (zq _ hj))
  exact ⟨rest,(List.perm_cons_erase (h i zp)).trans (hr.cons i)⟩
theorem St.sel {B:Nat} {h0 hp:AA} {rs:List AE} (s:St B h0 hp rs) (n:Nat) (Cf:List Nat) (h:Cf.Nodup∧∀i∈Cf,i<n:=by decide) (hn:Nat.ble n rs.length=true:=by rfl):St B h0 hp (BU Cf n rs):=by
 have hn:=Nat.le_of_ble_eq_true hn
 obtain ⟨rest,hp1⟩:=VJ (l:=List.range n) h.1 fun i hi=>List.mem_range.2 (h.2 i hi)
 have h1:rs.Perm (rest.map (An rs)++BU Cf n rs):=by
  rw [V5]
  refine (List.Perm.of_eq (List.take_append_drop n rs).symm).trans ?_
  rw [←Zu hn,←z8]
  refine List.Perm.append_right _ ((hp1.map (An rs)).trans ?_)
  rw [List.map_append]
  exact List.perm_append_comm
 have s2:=s.perm h1
 clear h1 hp1
 generalize rest.map (An rs)=l at s2
 induction l with
 | nil=>exact s2
 | cons a l ih=>exact ih s2.tail
end Go.Bn
end

section
namespace Go.Bn
open Go
section
variable {c:Cx} {k:List DW} {E:Au} {hp:AA}
end
section
variable {cl:Ca} {P:Program} {E:Au} {hp:AA} {d:Option Tmp} {ty:TypeId} {pos:String} {af:Array Edge} {g:Option (Nat×Bool)}
def SH (P:Program) (t:TypeId):Bool:=match P.underlying t with
  | some (.interface _)=>false
  | some _=>true
  | none=>false
theorem b8 {x:Operand} {t:TypeId} {v:Value} (hx:ev E x=some v) (hf:SH P t=true):BB cl P ⟨d,.makeInterface t x,ty,pos,af,g⟩ E hp (.iface t v):=by
 refine BB.of_pure fun n a ho w=> ?_
 simp only [execOp,ho.eval hx]
 unfold SH at hf
 cases hu:P.underlying t with
 | none=>rw [hu]at hf;cases hf
 | some u=>
  rw [hu]at hf
  cases u <;> first
   | (cases hf;done)
   | simp [Instr.makeInterface,run_underlying hu,go_sem]
end
section
variable {P:Program} {E:Au} {hp:AA} {d:Option Tmp} {ty:TypeId} {pos:String} {af:Array Edge} {g:Option (Nat×Bool)}
end
section
variable {c:Cx} {k:List DW} {E:Au} {hp:AA} {ops:Array Oper} {cs:CF}
end
end Go.Bn
end

section
namespace Go.Bn
abbrev Nm:=List UInt8→Option Nat
structure C5 where
  frm:List UInt8
  to:List UInt8
  id:Nat
def Br (m:Nm) (c:C5):Nm:=fun k=>if c.to≠[]∧k=c.to then some ((m c.frm).getD c.id)else if k=c.frm then none else m k
structure Fs where
  dk:List Dk
  now:Nm
  safe:Nm
  wait:List C5
  /-- Is no call refused? -/
  quiet:Bool
@[reducible] def B7:List UInt8:=[97]
@[reducible] def Ch:List UInt8:=[97,46,116,109,112]
structure Fs.ok (f:Fs) (S:Nat):Prop where
  dk:∀d∈f.dk,d.ok∧d.safe.length≤S
  now:∀k i,f.now k=some i→(k=B7∨k=Ch)∧i<f.dk.length
  safe:∀k i,f.safe k=some i→(k=B7∨k=Ch)∧i<f.dk.length
def DV (f:Fs) (L:List (List AS)):Prop:=∀n,∃i d,((f.wait.take n).foldl Br f.safe) B7=some i∧f.dk[i]? =some d∧GI d L
theorem GI.mono {d:Dk} {L L':List (List AS)} (h:GI d L) (hs:∀l∈L,l∈L'):GI d L':=fun b ha=>by
 obtain ⟨l,s,h1,h2⟩:=h b ha
 exact ⟨l,s,hs l h1,h2⟩
theorem DV.mono {f:Fs} {L L':List (List AS)} (h:DV f L) (hs:∀l∈L,l∈L'):DV f L':=fun n=>by
 obtain ⟨i,d,h1,h2,h3⟩:=h n
 exact ⟨i,d,h1,h2,h3.mono hs⟩
structure G8 (f:Fs) (i:Nat) (so s:AQ) (l0 l:List AS):Prop where
  now:f.now=fun k=>if k=B7 then some i else none
  safe:f.safe=f.now
  wait:f.wait=[]
  dk:∃d,f.dk[i]? =some d∧DI d so s l0 l
theorem G8.good {f:Fs} {i:Nat} {so s:AQ} {l0 l:List AS} (h:G8 f i so s l0 l):DV f [l0]:=fun n=>by
 obtain ⟨d,h1,h2⟩:=h.dk
 exact ⟨i,d,by rw [h.wait,h.safe,h.now];simp,h1,h2.may⟩
def Fs.setD (f:Fs) (i:Nat) (d:Dk):Fs:={f with dk:=f.dk.set i d}
theorem G8.put {f:Fs} {i:Nat} {so s so' s':AQ} {l0 l l0' l':List AS} (h:G8 f i so s l0 l) {d':Dk} (hd:DI d' so' s' l0' l'):G8 (f.setD i d') i so' s' l0' l':=by
 obtain ⟨d,h1,h2⟩:=h.dk
 exact ⟨h.now,h.safe,h.wait,d',by simp only [Fs.setD,List.getElem?_set_self ((zc.1 h1).1)],hd⟩
theorem G8.may {f:Fs} {i:Nat} {so s:AQ} {l0 l:List AS} (h:G8 f i so s l0 l) {d':Dk} {L:List (List AS)} (hd:GI d' L):DV (f.setD i d') L:=fun n=>by
 obtain ⟨d,h1,h2⟩:=h.dk
 exact ⟨i,d',by simp only [Fs.setD];rw [h.wait,h.safe,h.now];simp,by simp only [Fs.setD,List.getElem?_set_self ((zc.1 h1).1)],hd⟩
noncomputable def Em (l:List AS):Nat:=(CV (mems l)).length
noncomputable def Cw (q:Nat) (l:List AS):AQ:=⟨(q:Nat),(1024+(AX l).length:Nat),(Em l:Nat),true⟩
noncomputable def CE (l:List AS):List UInt8:=(Cw 0 l).bytes++((Cw 1 l).bytes++(AX l++CV (mems l)))
theorem M8 (l:List AS):(CE l).length=1024+(AX l).length+Em l:=by
 simp only [CE,z2,AQ.bytes_length,Em];omega
theorem TN {l:List AS} (h0:(Cw 0 l).right) (h1:(Cw 1 l).right):DI (Dk.nil.write 0 (CE l)).sync (Cw 0 l) (Cw 1 l) l l:=by
 have hlen:=M8 l
 have hne:CE l≠[]:=fun e=>by rw [e,zk]at hlen;omega
 have hok:=Dk.nil.write_ok Dk.nil_ok 0 (CE l)
 have hat:=Mg Dk.nil_ok 0 (CE l)
 have hnl:0+(CE l).length≤(Dk.nil.write 0 (CE l)).now.length:=by
  rw [hok.len,Dk.write_size Dk.nil_ok 0 hne]
  have:=N9 (0+(CE l).length);omega
 have a0:At (Dk.nil.write 0 (CE l)).now 0 (Cw 0 l).bytes:=hat.left
 have a1:At (Dk.nil.write 0 (CE l)).now 512 ((Cw 1 l).bytes++(AX l++CV (mems l))):=by
  have:=hat.right;rwa [AQ.bytes_length,Nat.zero_add]at this
 have a2:At (Dk.nil.write 0 (CE l)).now 1024 (AX l++CV (mems l)):=by
  have:=a1.right;rwa [AQ.bytes_length]at this
 have hs:∀k c,c.length=512→At (Dk.nil.write 0 (CE l)).now (k*512) c→CC (Dk.nil.write 0 (CE l)).now k=c:=fun k c hc ha=>by
  refine List.ext_getElem? fun j=> ?_
  rcases Nat.lt_or_ge j 512 with hj | hj
  ·rw [Gy _ _ _ hj];exact ha j (by omega)
  ·rw [List.getElem?_eq_none (by unfold CC;rw [z6];omega),List.getElem?_eq_none (by omega)]
 have e0:=hs 0 _ (Cw 0 l).bytes_length (by rw [Nat.zero_mul];exact a0)
 have e1:=hs 1 _ (Cw 1 l).bytes_length (by rw [Nat.one_mul];exact a1.left)
 have hsz:=hok.len
 have v0:=Vs.sync (d:=Dk.nil.write 0 (CE l)) 0 (by omega)
 have v1:=Vs.sync (d:=Dk.nil.write 0 (CE l)) 1 (by omega)
 rw [e0]at v0
 rw [e1]at v1
 have hfit:1024+(AX l).length+(CV (mems l)).length≤(Dk.nil.write 0 (CE l)).now.length:=by unfold Em at hlen;omega
 exact ⟨Dk.sync_ok hok,Ow hok,⟨h0,h1,by simp [Cw],by simp [pl,Cw]⟩,v0,v1,rfl,Da.sync hok a2.left (by omega),List.prefix_refl _,a2.left,by show _≤(Dk.nil.write 0 (CE l)).now.length;omega,
  fun _=>⟨rfl,rfl,Da.sync hok a2.right hfit,a2.right⟩⟩
@[reducible] def Ml (j:Nat):C5:=⟨[],Ch,j⟩
@[reducible] def Id:C5:=⟨Ch,B7,0⟩
@[reducible] def Mm:C5:=⟨Ch,[],0⟩
theorem PH {f:Fs} {i j:Nat} {L:List (List AS)} (hs:f.safe=fun k=>if k=B7 then some i else none) (hd:∃d,f.dk[i]? =some d∧GI d L)
  (hw:f.wait=[]∨f.wait=[Ml j]∨f.wait=[Ml j,Mm]∨(f.wait=[Ml j,Id]∧∃d,f.dk[j]? =some d∧GI d L)):DV f L:=by
 intro n
 obtain ⟨d,h1,h2⟩:=hd
 have key:((f.wait.take n).foldl Br f.safe) B7=some i∨(f.wait=[Ml j,Id]∧((f.wait.take n).foldl Br f.safe) B7=some j):=by
  rw [hs]
  rcases hw with hw | hw | hw | ⟨hw,_⟩ <;> rw [hw]
  ·exact .inl (by simp)
  ·rcases n with _ | n
   ·exact .inl (by simp)
   ·exact .inl (by simp [Br])
  ·rcases n with _ | _ | n
   ·exact .inl (by simp)
   ·exact .inl (by simp [Br])
   ·exact .inl (by simp [Br])
  ·rcases n with _ | _ | n
   ·exact .inl (by simp)
   ·exact .inl (by simp [Br])
   ·exact .inr ⟨rfl,by simp [Br]⟩
 rcases key with hk | ⟨hw2,hk⟩
 ·exact ⟨i,d,hk,h1,h2⟩
 ·rcases hw with hw | hw | hw | ⟨_,d',h3,h4⟩
  ·rw [hw2]at hw;cases hw
  ·rw [hw2]at hw;cases hw
  ·rw [hw2]at hw;simp at hw
  ·exact ⟨j,d',hk,h3,h4⟩
def Fs.doN (f:Fs) (c:C5):Fs:={f with now:=Br f.now c,wait:=f.wait++[c]}
def Fs.make (f:Fs) (k:List UInt8):Fs:={f.doN ⟨[],k,f.dk.length⟩with dk:=f.dk++[Dk.nil]}
def Fs.syncD (f:Fs):Fs:={f with safe:=f.now,wait:=[]}
structure MV (f f':Fs):Prop where
  len:f'.dk.length=f.dk.length
  dk:∀ (i:Nat) (d:Dk),f.dk[i]? =some d→∃b,FY d b∧f'.dk[i]? =some (d.to b)
  now:∃m,f'.now=(f.wait.take m).foldl Br f.safe
  safe:f'.safe=f'.now
  wait:f'.wait=[]
  quiet:f'.quiet=true
structure Fs.fit (f:Fs) (S cap:Nat):Prop where
  dk:∀d∈f.dk,d.safe.length≤S∧d.wait.length≤1073741824
  link:∀i,i<f.dk.length→∃k,f.now k=some i
  now:∀k i,f.now k=some i→k∈[B7,Ch]
  wait:f.wait.length≤1048576
  room:(f.dk.length+1)*S≤cap
  cap:cap≤65536
end Go.Bn
end

section
namespace Go.Bn
open Go
def Ct (f:Nm):List UInt8→Option Value:=fun k=>(f k).map fun n:Nat=>Value.int .i64 (n:Int)
def JZ (f:Nm):Option Nat→AE
  | none=>Fb (f=fun _=>none) emp
  | some p=>Dj AU p (Ct f)
def B6 (v:Value) (f:Nm):AE:=Cb fun o=>Fb (v= .map o) (JZ f o)
theorem St.mp {B:Nat} {h0 hp:AA} {v:Value} {f:Nm} {F:List AE}:St B h0 hp (B6 v f::F)↔∃o,v= .map o∧St B h0 hp (JZ f o::F):=
 ⟨fun st=>by obtain ⟨o,st⟩:=St.ex.1 st;exact ⟨o,St.and.1 st⟩,fun ⟨o,h,st⟩=>St.ex.2 ⟨o,St.and.2 ⟨h,st⟩⟩⟩
theorem UM (f:Nm) (k:List UInt8):(Ct f k).getD (.int .i64 0)= .int .i64 (((f k).getD 0:Nat):Int):=by
 unfold Ct;cases f k <;> rfl
theorem UN (f:Nm) (k:List UInt8):(Ct f k).isSome=(f k).isSome:=by unfold Ct;cases f k <;> rfl
theorem SW {f:Nm} {c:C5} {i:Nat} (h:c.to≠[]) (hi:(f c.frm).getD c.id=i):Gw (H3 (Ct f) c.frm) c.to (.int .i64 (i:Int))=Ct (Br f c):=by
 funext k
 unfold Gw H3 Ct Br
 by_cases hk:k=c.to
 ·rw [if_pos hk,if_pos ⟨h,hk⟩,hi];rfl
 ·rw [if_neg hk,if_neg (show ¬ (c.to≠[]∧k=c.to)from fun e=>hk e.2)]
  by_cases h2:k=c.frm
  ·rw [if_pos h2,if_pos h2];rfl
  ·rw [if_neg h2,if_neg h2]
theorem SV {f:Nm} {c:C5} (h:c.to=[]):H3 (Ct f) c.frm=Ct (Br f c):=by
 funext k
 unfold H3 Ct Br
 rw [if_neg (show ¬ (c.to≠[]∧k=c.to)from fun e=>e.1 h)]
 by_cases h2:k=c.frm
 ·rw [if_pos h2,if_pos h2];rfl
 ·rw [if_neg h2,if_neg h2]
section
variable {P:Program} {E:Au} {hp:AA} {cl:Ca} {d:Option Tmp} {ty:TypeId} {pos:String} {af:Array Edge} {g:Option (Nat×Bool)}
variable {x y z:Operand} {t t':TypeId}
theorem St.mpAt {B:Nat} {h0:AA} {rs:List AE} (st:St B h0 hp rs) (j:Nat) {v:Value} {f:Nm} (hj:rs[j]? =some (B6 v f)):∃o,v= .map o∧St B h0 hp (JZ f o::rs.eraseIdx j):=St.mp.1 (st.perm (IM hj).1)
theorem St.mpPut {B:Nat} {h0:AA} {rs:List AE} (st:St B h0 hp rs) (j:Nat) {f:Nm} {o:Option Nat} (hj:rs[j]? =some (JZ f o)):St B h0 hp (rs.set j (B6 (.map o) f)):=(St.mp.2 ⟨o,rfl,st.perm (IM hj).1⟩).perm ((IM hj).2 _)
theorem Np {B:Nat} {h0:AA} {rs:List AE} (st:St B h0 hp rs) (j:Nat) {v:Value} {f:Nm} {k:List UInt8} (hj:rs[j]? =some (B6 v f)) (hx:ev E x=some v) (hy:ev E y=some (AU k)) (ht:Hi P t=some (.string,.int .i64 0)):
  Bd P ⟨d,.lookup t x y true,ty,pos,af,g⟩ E hp (fun u hp'=>u= .tuple #[.int .i64 (((f k).getD 0:Nat):Int),.bool (f k).isSome]∧hp=hp'):=by
 obtain ⟨o,rfl,st⟩:=st.mpAt j hj
 cases o with
 | none=>
  obtain ⟨rfl,_⟩:=St.and.1 st
  exact cO hx hy (by simp [MapKept.IsKey]) ht
 | some p=>
  have:=P2 (d:=d) (ty:=ty) (pos:=pos) (af:=af) (g:=g) He st 0 rfl hx hy ht
  rwa [UM,UN]at this
theorem cQ {B:Nat} {h0:AA} {rs:List AE} (st:St B h0 hp rs) (j:Nat) {v:Value} {f:Nm} {ts:Array TypeId} (ks:List (List UInt8)) (hf:∀k i,f k=some i→k∈ks) (hj:rs[j]? =some (B6 v f)) (hx:ev E x=some v)
  (ht:Hi P t=some (.string,.int .i64 0)) (hts:ts= #[t]):Bd P ⟨d,.call ⟨.builtin .len,#[x],ts⟩,ty,pos,af,g⟩ E hp (fun u hp'=>(∃n:Nat,u= .int .i64 (n:Int)∧n≤ks.length)∧hp=hp'):=by
 obtain ⟨o,rfl,st⟩:=st.mpAt j hj
 cases o with
 | none=>
  intro n a w ho hw K hK
  subst hw hts
  obtain ⟨k,e,hu,_⟩:=JW ht
  have hrun:(execOp a.eval ⟨d,.call ⟨.builtin .len,#[x],#[t]⟩,ty,pos,af,g⟩).run P w= .ok (.value (.int .i64 0)) w:=by
   simp [execOp,resolve,ho.eval hx,invoke,builtin,Builtin.len_,run_underlying hu,goInt]
  simp only [Oper.wp,hrun,Oper.upon]
  exact hK _ _ (B8.refl w) ⟨⟨0,rfl,Nat.zero_le _⟩,rfl⟩
 | some p=>exact cP He st 0 ks (fun k v h=>by
   unfold Ct at h
   cases hk:f k with
   | none=>rw [hk]at h;cases h
   | some i=>exact hf k i hk) rfl hx ht hts
def NC (P:Program) (t:TypeId):Bool:=match P.underlying t with | some (.map _ _)=>true | _=>false
theorem UW {o:Option Nat} (hx:ev E x=some (.map o)) (hy:ev E y=some (.map none)) (ht:NC P t=true):BB cl P ⟨d,.binOp .eql t x y t',ty,pos,af,g⟩ E hp (.bool o.isNone):=
 .of_pure fun n a ho w=>by
  unfold NC at ht
  split at ht
  ·rename_i k e hu
   have h:(binOp .eql t (.map o) (.map none)).run P w= .ok (.bool o.isNone) w:=by
    simp only [binOp,Sem.run_bind,run_equal_map_nil w t k e o hu,Result.andThen_ok,Sem.run_pure]
   simp [execOp,ho.eval hx,ho.eval hy,eqGuard,h]
  ·cases ht
theorem cK {f:FuncId} {e:Array Value→Sem Value} {args:Array Operand} {ts:Array TypeId} {vs:List Value} {Φ:Value→AA→Prop} (he:MU P f e) (hargs:HG E args.toList=some vs) (hr:∀w:World,w.heap=hp→∃v w',(e vs.toArray).run P w= .ok v w'∧B8 w w'∧Φ v w'.heap):
  Bd P ⟨d,.call ⟨.value (.func f),args,ts⟩,ty,pos,af,g⟩ E hp Φ:=by
 intro n a w ho hw K hK
 have ha:args.map a.eval=vs.toArray:=by
  apply Array.toList_inj.1
  rw [Array.toList_map,ho.evals hargs]
 obtain ⟨v,w',hrun,hi,hφ⟩:=hr w hw
 have:(execOp a.eval ⟨d,.call ⟨.value (.func f),args,ts⟩,ty,pos,af,g⟩).run P w= .ok (.value v) w':=by
  simp [execOp,resolve,Act.eval,Deferred.ofValue,invoke,ha,he.run,hrun]
 simp only [Oper.wp,this,Oper.upon]
 exact hK v w' hi hφ
theorem bv {v:Value} {r:TypeId} (hx:ev E x=some (.iface t' v)) (ht:NC P t'=true):BB cl P ⟨d,.typeAssert x r t' false,ty,pos,af,g⟩ E hp v:=
 .of_pure fun n a ho w=>by
  unfold NC at ht
  split at ht
  ·rename_i k e hu
   have h:(Instr.typeAssert (.iface t' v) r t' false).run P w= .ok v w:=by
    simp [Instr.typeAssert,run_underlying hu,go_sem,Result.andThen]
   simp only [execOp,ho.eval hx]
   simp [h]
  ·cases ht
theorem eJ {r:Nat} {es:Array MapEntry} {clock:Nat} (w:World) (t:TypeId) (hb:w.heap[r]? =some (.map es clock)):
  (Extern.MapsClone.clone #[.iface t (.map (some r))]).run P w= .ok (.iface t (.map (some w.heap.size))) (w.alloc (.map es clock)):=by
 have e:Extern.MapsClone.clone #[.iface t (.map (some r))]=(getObj r >>=fun o=>match o with
   | .map entries clock=>(newObj (.map entries clock) >>=fun n=>pure (.iface t (.map (some n))))
   | _=>stuck "maps.clone: a map expected"):=rfl
 rw [e]
 simp [MapKept.run_getObj_map hb,Result.andThen,go_sem]
end
end Go.Bn
end

section
namespace Go.Bn
open Go Proofs
@[reducible] def DL (c:C5):List Value:=[AU c.frm,AU c.to,nV c.id]
theorem R6 (c:C5):∀u∈DL c,Value.one u=true:=by
 intro u hu
 simp only [DL,List.mem_cons,zl,or_false]at hu
 rcases hu with rfl | rfl | rfl <;> rfl
def DF (l:List C5):List Value:=l.flatMap DL
theorem K9:∀ (l:List C5),(DF l).length=3*l.length
 | []=>rfl
 | c::l=>by simp only [DF,zt,z2,ze,zk]at*;have:=K9 l;simp only [DF]at this;omega
theorem Yf (l:List C5) (c:C5):DF (l++[c])=DF l++DL c:=by simp [DF]
theorem UO {s:List UInt8} (h:0<s.length∧s.length≤100) (h0:AA):AG Tryz.prog 223 [AU s] h0 fun v h'=>v= .bool true∧h0=h':=by
 refine BE Tryz.func223 rfl fun _=>Aj ?_
 refine AT (.bool true) (congrArg Value.bool (decide_eq_true (by omega))) (AJ ?_)
 refine AT (.bool true) (congrArg Value.bool (decide_eq_true (by omega))) (AJ ?_)
 exact ⟨rfl,rfl⟩
theorem UI {B q:Nat} {f:Nm} {c:C5} {F:List AE} {h0:AA} (st0:St B h0 h0 (Dj AU q (Ct f)::F)):
  AG Tryz.prog 97 [.map (some q),.agg (DL c).toArray] h0 fun _ h'=>St B h0 h' (Dj AU q (Ct (Br f c))::F):=by
 refine Ac Tryz.func97 rfl fun _=> ?_
 have st:=st0
 refine AB ?_
 refine xb (us:=DL c) st fun p3 hp st=>AH ?_
 refine xe ?_
 refine xv (P2 He st 1 rfl rfl rfl rfl) ?_
 rintro _ _ ⟨rfl,rfl⟩
 refine AB ?_
 rw [UM]
 refine AC ?_
 rw [UN]
 refine Aj ?_
 refine C6 rfl (fun h=> ?_) (fun h=> ?_)
 ·have hi:(f c.frm).getD c.id=c.id:=by
   cases hf:f c.frm with
   | none=>rfl
   | some i=>rw [hf]at h;cases h
  refine AB ?_
  refine xe ?_
  refine AL ?_
  refine xe ?_
  refine BT (Uf He st 1 rfl rfl rfl rfl rfl) rfl rfl fun _ hp st=> ?_
  simp only [z0,z1]at st
  refine AJ ?_
  refine xe ?_
  refine xa (F9 (b:=[]) rfl rfl) (AC ?_)
  refine AK rfl (fun h=> ?_) (fun h=> ?_)
  ·have h2:=h
   refine AF ?_
   refine xe ?_
   refine AC ?_
   refine BT (L3 He st 1 rfl rfl rfl rfl rfl) rfl rfl fun _ hp st=> ?_
   simp only [z0,z1]at st
   refine AB ?_
   rw [←SW h2 hi]
   exact st.tail
  ·have h2:=h
   refine AB ?_
   rw [←SV (by simpa using h2)]
   exact st.tail
 ·have hi:(f c.frm).getD c.id=(f c.frm).getD 0:=by
   cases hf:f c.frm with
   | none=>rw [hf]at h;cases h
   | some i=>rfl
  refine AH ?_
  refine xe ?_
  refine BT (Uf He st 1 rfl rfl rfl rfl rfl) rfl rfl fun _ hp st=> ?_
  simp only [z0,z1]at st
  refine AJ ?_
  refine xe ?_
  refine xa (F9 (b:=[]) rfl rfl) (AC ?_)
  refine AK rfl (fun h=> ?_) (fun h=> ?_)
  ·have h2:=h
   refine AF ?_
   refine xe ?_
   refine AC ?_
   refine BT (L3 He st 1 rfl rfl rfl rfl rfl) rfl rfl fun _ hp st=> ?_
   simp only [z0,z1]at st
   refine AB ?_
   rw [←SW h2 hi]
   exact st.tail
  ·have h2:=h
   refine AB ?_
   rw [←SV (by simpa using h2)]
   exact st.tail
theorem Pr {B p:Nat} {vd vn vs vw a4 a5 a6 a7:Value} {now safe:Nm} {wl:List C5} {c:C5} {F:List AE} {h0:AA}
  (st0:St B h0 h0 (pt p 63 [vd,vn,vs,vw,a4,a5,a6,a7]::B6 vn now::B6 vs safe::row 176 3 vw (DF wl)::F)) (hw:wl.length≤1048576):
  AG Tryz.prog 222 [.pointer (some ⟨p,1,none⟩),.agg (DL c).toArray] h0 fun v h'=>v=nV 0∧∃vn' vw',St B h0 h' (pt p 63 [vd,vn',vs,vw',a4,a5,a6,a7]::B6 vn' (Br now c)::B6 vs safe::row 176 3 vw' (DF (wl++[c]))::F):=by
 obtain ⟨o,rfl,st⟩:=st0.mpAt 1 rfl
 simp only [List.eraseIdx_cons_succ,List.eraseIdx_cons_zero]at st
 refine Ac Tryz.func222 rfl fun _=>AB ?_
 refine xb (us:=DL c) st fun p3 hp st=>AF ?_
 refine Ma (σ:=Nat) (fun _=>[(0,.pointer (some ⟨p,1,none⟩)),(3,.pointer (some ⟨p3,0,none⟩))]) (fun q hp=>St B h0 hp (Dj AU q (Ct now)::pt p3 176 (DL c)::pt p 63 [vd,.map (some q),vs,vw,a4,a5,a6,a7]::B6 vs safe::row 176 3 vw (DF wl)::F)) ?_ ?_
 ·refine AH ?_
  refine xc st 2 1 ?_
  refine xa (UW rfl rfl rfl) (AC ?_)
  refine C6 rfl (fun h=> ?_) (fun h=> ?_)
  ·obtain rfl:o=none:=by cases o <;> first | rfl | cases h
   obtain ⟨rfl,_⟩:=St.and.1 (st.sel 2 [1])
   replace st:=st.sel 2 [0]
   simp only [BU,BV,An]at st
   refine AB ?_
   refine xv (P3 (kv:=AU)) ?_
   rintro _ hp ⟨q,rfl,hnew⟩
   replace st:=st.new hnew
   refine AB ?_
   refine xj (i:=1) st 2 fun hp st=> ?_
   simp only [z0,z1]at st
   refine AC ?_
   exact C7 q (Cu rfl rfl) st
  ·refine AC ?_
   obtain ⟨q,rfl⟩:∃q,o=some q:=by
    cases o with
    | none=>cases h
    | some q=>exact ⟨q,rfl⟩
   exact C7 q (Cu rfl rfl) (st.sel 2 [1,0])
 clear st
 intro q hp st
 refine AH ?_
 refine xc st 2 1 ?_
 refine xa (Ai (vs:=DL c) (st.cells 1 rfl) rfl rfl rfl rfl) ?_
 refine xk (UI st.here) rfl ?_
 rintro _ hp2 st2
 replace st:=st.trans st2
 refine AO ?_
 refine xc st 2 3 ?_
 refine xa (Ai (vs:=DL c) (st.cells 1 rfl) rfl rfl rfl rfl) ?_
 refine BW (D4 (us:=DL c) rfl rfl rfl rfl (by kernel_rfl)) rfl rfl rfl (fun _ _ ⟨_,_,e,_⟩=>e) ?_
 rintro _ hp ⟨A,rfl,hxx,hrd⟩
 replace st:=st.ext hxx
 refine BN (BY st 4 rfl hrd rfl (R6 _) (by rw [K9];simp only [ze,zk];omega) rfl rfl rfl rfl rfl rfl rfl) rfl rfl rfl fun v hp st=> ?_
 simp only [z0,z1]at st
 rw [←Yf]at st
 obtain ⟨_,_,_,rfl,_⟩:=st.row 4 rfl
 refine AB ?_
 refine xj (i:=3) st 2 fun hp st=> ?_
 simp only [z0,z1]at st
 refine AL ?_
 replace st:=st.sel 5 [2,0,3,4]
 exact ⟨rfl,_,_,st.mpPut (o:=some q) 1 rfl⟩
theorem bf {B p:Nat} {vd vn vs vw a4 a5 a6 a7:Value} {now safe:Nm} {k:List UInt8} {F:List AE} {h0:AA}
  (st:St B h0 h0 (pt p 63 [vd,vn,vs,vw,a4,a5,a6,a7]::B6 vn now::F)):
  AG Tryz.prog 82 [.pointer (some ⟨p,1,none⟩),AU k] h0 fun v h'=>v=Al [nV ((now k).getD 0),.bool (now k).isSome]∧h0=h':=by
 refine Ac Tryz.func82 rfl fun _=>FX ?_
 refine xc st 0 1 ?_
 refine AC ?_
 refine xv (Np st 1 rfl rfl rfl rfl) ?_
 rintro _ _ ⟨rfl,rfl⟩
 refine Bq ?_
 exact ⟨rfl,rfl⟩
theorem ba {B p id:Nat} {vd vn vs vw a4 a5 a6 a7:Value} {now safe:Nm} {wl:List C5} {k:List UInt8} {ks:List (List UInt8)} {F:List AE} {h0:AA}
  (st:St B h0 h0 (pt p 63 [vd,vn,vs,vw,a4,a5,a6,a7]::B6 vn now::B6 vs safe::row 176 3 vw (DF wl)::F)) (hw:wl.length≤1048576)
  (hk:0<k.length∧k.length≤100) (hn:now k=none) (hks:∀k i,now k=some i→k∈ks) (hk2:ks.length<16):
  AG Tryz.prog 178 [.pointer (some ⟨p,1,none⟩),AU k,nV id] h0 fun v h'=>v=nV 0∧∃vn' vw',St B h0 h' (pt p 63 [vd,vn',vs,vw',a4,a5,a6,a7]::B6 vn' (Br now ⟨[],k,id⟩)::B6 vs safe::row 176 3 vw' (DF (wl++[⟨[],k,id⟩]))::F):=by
 refine Bg Tryz.func178 rfl fun _=>EY ?_
 refine xc st 0 1 ?_
 refine AC ?_
 refine xv (Np st 1 rfl rfl rfl rfl) ?_
 rintro _ _ ⟨rfl,rfl⟩
 rw [hn]
 refine Bu ?_
 refine xk (UO hk _) rfl ?_
 rintro _ _ ⟨rfl,rfl⟩
 refine Cp ?_
 refine xc st 0 1 ?_
 refine xv (cQ st 1 ks hks rfl rfl rfl rfl) ?_
 rintro _ _ ⟨⟨n,rfl,hn2⟩,rfl⟩
 refine AC ?_
 refine AT (.bool false) (congrArg Value.bool (zu (by omega))) (BP ?_)
 refine xa (AZ (ps:=[(1,AU k),(2,nV id)]) (cs:=(DL ⟨[],k,id⟩).toArray) rfl rfl) ?_
 refine xk (Pr st.here hw) rfl ?_
 rintro _ hp2 ⟨rfl,vn',vw',st2⟩
 refine AF ?_
 exact ⟨rfl,vn',vw',st2⟩
theorem bi {B p i:Nat} {vd vn vs vw a4 a5 a6 a7:Value} {now safe:Nm} {wl:List C5} {k k2:List UInt8} {F:List AE} {h0:AA}
  (st:St B h0 h0 (pt p 63 [vd,vn,vs,vw,a4,a5,a6,a7]::B6 vn now::B6 vs safe::row 176 3 vw (DF wl)::F)) (hw:wl.length≤1048576)
  (hk:0<k2.length∧k2.length≤100) (hn:now k=some i):
  AG Tryz.prog 224 [.pointer (some ⟨p,1,none⟩),AU k,AU k2] h0 fun v h'=>v=nV 0∧∃vn' vw',St B h0 h' (pt p 63 [vd,vn',vs,vw',a4,a5,a6,a7]::B6 vn' (Br now ⟨k,k2,0⟩)::B6 vs safe::row 176 3 vw' (DF (wl++[⟨k,k2,0⟩]))::F):=by
 refine Bg Tryz.func224 rfl fun _=>EY ?_
 refine xc st 0 1 ?_
 refine AC ?_
 refine xv (Np st 1 rfl rfl rfl rfl) ?_
 rintro _ _ ⟨rfl,rfl⟩
 rw [hn]
 refine Bu ?_
 refine xk (UO hk _) rfl ?_
 rintro _ _ ⟨rfl,rfl⟩
 refine AO ?_
 refine xa (Bm rfl) (BP ?_)
 refine xa (AZ (ps:=[(0,AU k),(1,AU k2)]) (cs:=(DL ⟨k,k2,0⟩).toArray) rfl rfl) ?_
 refine xk (Pr st.here hw) rfl ?_
 rintro _ hp2 ⟨rfl,vn',vw',st2⟩
 refine AF ?_
 exact ⟨rfl,vn',vw',st2⟩
theorem bh {B p i:Nat} {vd vn vs vw a4 a5 a6 a7:Value} {now safe:Nm} {wl:List C5} {k:List UInt8} {F:List AE} {h0:AA}
  (st:St B h0 h0 (pt p 63 [vd,vn,vs,vw,a4,a5,a6,a7]::B6 vn now::B6 vs safe::row 176 3 vw (DF wl)::F)) (hw:wl.length≤1048576) (hn:now k=some i):
  AG Tryz.prog 177 [.pointer (some ⟨p,1,none⟩),AU k] h0 fun v h'=>v=nV 0∧∃vn' vw',St B h0 h' (pt p 63 [vd,vn',vs,vw',a4,a5,a6,a7]::B6 vn' (Br now ⟨k,[],0⟩)::B6 vs safe::row 176 3 vw' (DF (wl++[⟨k,[],0⟩]))::F):=by
 refine Ac Tryz.func177 rfl fun _=>FX ?_
 refine xc st 0 1 ?_
 refine AC ?_
 refine xv (Np st 1 rfl rfl rfl rfl) ?_
 rintro _ _ ⟨rfl,rfl⟩
 rw [hn]
 refine Aj ?_
 refine xa (Bm rfl) (AO ?_)
 refine xa (AZ (ps:=[(0,AU k)]) (cs:=(DL ⟨k,[],0⟩).toArray) rfl rfl) ?_
 refine xk (Pr st.here hw) rfl ?_
 rintro _ hp2 ⟨rfl,vn',vw',st2⟩
 refine AF ?_
 exact ⟨rfl,vn',vw',st2⟩
theorem bJ {B:Nat} {o:Option Nat} {f:Nm} {F:List AE} {h0:AA} (st:St B h0 h0 (JZ f o::F)):AG Tryz.prog 144 [.map o] h0 fun v h'=>∃o',v= .map o'∧St B h0 h' (JZ f o'::JZ f o::F):=by
 refine BE Tryz.func144 rfl fun _=>AP ?_
 refine xa (UW rfl rfl rfl) (AC ?_)
 refine C6 rfl (fun h=> ?_) (fun h=> ?_)
 ·obtain rfl:o=none:=by cases o <;> first | rfl | cases h
  refine AH ?_
  obtain ⟨hf,st2⟩:=St.and.1 st
  exact ⟨none,rfl,St.and.2 ⟨hf,St.emp.2 st⟩⟩
 ·obtain ⟨q,rfl⟩:∃q,o=some q:=by
   cases o with
   | none=>cases h
   | some q=>exact ⟨q,rfl⟩
  refine AJ ?_
  refine xa (b8 rfl rfl) ?_
  obtain ⟨es,ck,hes,hb⟩:=St.mapG_at st (j:=0) rfl
  refine BN (cK (LG (f:=188) (e:=Extern.MapsClone.clone) rfl (by kernel_rfl) (by kernel_rfl) (by kernel_rfl) (by kernel_rfl)) rfl (Φ:=fun v hp'=>∃q',v= .iface 57 (.map (some q'))∧EZ (Dj AU q' (Ct f)) h0 hp') (fun w hw=>by
   subst hw
   exact ⟨_,_,eJ w _ hb,⟨rfl,rfl,rfl⟩,_,rfl,(Ik _ _).1,_,⟨(es,ck),hes,(Ik _ _).2.choose_spec.1⟩,(Ik _ _).2.choose_spec.2⟩)) rfl rfl rfl ?_
  rintro _ hp ⟨q',rfl,hnew⟩
  replace st:=st.new hnew
  refine xa (bv rfl rfl) (AF ?_)
  exact ⟨some q',rfl,st⟩
theorem Pq {B p:Nat} {vd vn vs vw a4 a5 a6 a7:Value} {now safe:Nm} {wl:List C5} {F:List AE} {h0:AA}
  (st0:St B h0 h0 (pt p 63 [vd,vn,vs,vw,a4,a5,a6,a7]::B6 vn now::B6 vs safe::row 176 3 vw (DF wl)::F)):
  AG Tryz.prog 98 [.pointer (some ⟨p,1,none⟩)] h0 fun _ h'=>∃vs' vw',St B h0 h' (pt p 63 [vd,vn,vs',vw',a4,a5,a6,a7]::B6 vn now::B6 vs' now::row 176 3 vw' (DF [])::F):=by
 obtain ⟨o,rfl,st⟩:=st0.mpAt 1 rfl
 replace st:=st.sel 4 [0,1]
 simp only [List.eraseIdx_cons_succ,List.eraseIdx_cons_zero,BU,BV,An]at st
 refine BE Tryz.func98 rfl fun _=>By ?_
 refine xc st 1 1 ?_
 refine xk (bJ st.here) rfl ?_
 rintro _ hp2 ⟨o',rfl,st2⟩
 replace st:=st.trans st2
 refine AB ?_
 refine xj (i:=2) st 2 fun hp st=> ?_
 simp only [z0,z1]at st
 refine AB ?_
 refine xj (i:=3) st 2 fun hp st=> ?_
 simp only [z0,z1]at st
 refine AB ?_
 replace st:=(st.nilrow 176 3).sel 4 [3,2,1,0]
 simp only [BU,BV,An]at st
 exact ⟨_,_,(st.mpPut 1 rfl).mpPut 2 rfl⟩
end Go.Bn
end

section
namespace Go.Bn
open Go Proofs
theorem Ph {α:Type} {x:α}:∀ {l:List α} {i:Nat},x∈l→x∈l.eraseIdx i∨l[i]? =some x
 | y::r,0,h=>by
  rcases List.mem_cons.1 h with rfl | h
  ·exact .inr rfl
  ·exact .inl h
 | y::r,i+1,h=>by
  rcases List.mem_cons.1 h with rfl | h
  ·exact .inl zp
  ·rcases Ph (i:=i) h with h | h
   ·exact .inl (zq _ h)
   ·exact .inr h
theorem UA {α:Type} {x:α} {l:List α} {i:Nat} (h:x∈l.eraseIdx i):x∈l:=(List.eraseIdx_sublist _ _).subset h
theorem bK {B q r:Nat} {f:Nm} {F:List AE} {h0:AA} (st0:St B h0 h0 (Dj AU q (fun _=>none)::Dj AU r (Ct f)::F)):
  AG Tryz.prog 96 [.map (some q),.map (some r)] h0 fun _ h'=>St B h0 h' (Dj AU q (Ct f)::Dj AU r (Ct f)::F):=by
 obtain ⟨es,ck,hes,st⟩:=St.mapBlk.1 st0.sw
 refine Ac Tryz.func96 rfl fun _=>AF ?_
 refine xv (Ui He hes (st.obj_at 0 rfl) st rfl rfl) ?_
 rintro _ hp ⟨_,qi,rem,rfl,hall,_,st⟩
 refine AB ?_
 refine BD (fun s=>s.1.length) (fun s=>[(0,.map (some q)),(7,.pointer (some ⟨qi,0,none⟩))])
  (fun (s:List (List UInt8×Value)×(List UInt8→Option Value)×Option (List UInt8×Value)) hp=>(∀k v,(k,v)∈s.1→Ct f k=some v)∧(∀k v,s.2.1 k=some v→Ct f k=some v)∧(∀k v,Ct f k=some v→(k,v)∈s.1∨s.2.1 k=some v)∧St B h0 hp (JV AU r qi es ck s.1 s.2.2::BG r (.map es ck)::Dj AU q s.2.1::F))
  (rem,fun _=>none,none) (Cu rfl rfl) ⟨fun k v h=>(hall k v).1 h,fun k v h=>(by cases h),fun k v h=> .inl ((hall k v).2 h),st⟩ ?_
 clear hall st st0
 rintro ⟨rem,g,last⟩ hp ⟨h1,h2,h3,st⟩
 simp only at h1 h2 h3 st ⊢
 refine AB ?_
 refine xv (Uh 0 hes (st.obj_at 1 rfl) st rfl rfl) ?_
 refine fun u hp hd=>hd.symm.elim (fun hd=> ?_) (fun hd=> ?_)
 ·obtain ⟨i,k,v,hri,rfl,_,st⟩:=hd
  simp only [z0]at st
  refine AP ?_
  refine xv (Ug hes (st.obj_at 1 rfl) st 0 rfl rfl) ?_
  rintro _ _ ⟨rfl,rfl⟩
  refine Aj ?_
  refine BT (L3 He st 2 rfl rfl rfl rfl rfl) rfl rfl fun _ hp st=> ?_
  simp only [z0,z1]at st
  refine AB ?_
  have hkv:=h1 k v (List.mem_of_getElem? hri)
  refine Ad (rem.eraseIdx i,Gw g k v,some (k,v)) (Cu rfl rfl) ⟨fun k v h=>h1 k v (UA h),fun j u h=> ?_,fun j u h=> ?_,st⟩ ?_
  ·simp only [Gw]at h
   split at h
   ·rename_i e;rw [e];cases h;exact hkv
   ·exact h2 j u h
  ·simp only [Gw]
   by_cases e:j=k
   ·rw [if_pos e];subst e;rw [hkv]at h;exact .inr h
   ·rw [if_neg e]
    rcases h3 j u h with h | h
    ·rcases Ph (i:=i) h with h | h
     ·exact .inl h
     ·rw [hri]at h;cases h;exact absurd rfl e
    ·exact .inr h
  ·have:=(zc.1 hri).1
   simp only [List.length_eraseIdx]
   rw [if_pos this];omega
 ·obtain ⟨rfl,rfl,rfl⟩:=hd
  refine AL ?_
  have e:g=Ct f:=by
   funext k
   cases hk:Ct f k with
   | none=>
    cases hg:g k with
    | none=>rfl
    | some v=>rw [h2 k v hg]at hk;cases hk
   | some v=>
    rcases h3 k v hk with h | h
    ·cases h
    ·exact h
  rw [e]at st
  exact (St.mapBlk.2 ⟨es,ck,hes,st.tail⟩).sw
theorem bZ {B p:Nat} {n:Int} {vd vn vs vw a4 a5 a6 a7:Value} {now safe:Nm} {wl:List C5} {F:List AE} {h0:AA}
  (st0:St B h0 h0 (pt p 63 [vd,vn,vs,vw,a4,a5,a6,a7]::B6 vn now::B6 vs safe::row 176 3 vw (DF wl)::F)) (hs:∃k i,safe k=some i):
  AG Tryz.prog 51 [.pointer (some ⟨p,1,none⟩),.int .i64 n] h0 fun _ h'=>∃m vn' vs' vw',St B h0 h' (pt p 63 [vd,vn',vs',vw',a4,a5,a6,a7]::B6 vn' ((wl.take m).foldl Br safe)::B6 vs' ((wl.take m).foldl Br safe)::row 176 3 vw' (DF [])::F):=by
 obtain ⟨o,rfl,st⟩:=st0.mpAt 2 rfl
 obtain ⟨r,rfl⟩:∃r,o=some r:=by
  cases o with
  | none=>
   obtain ⟨e,_⟩:=St.and.1 st
   obtain ⟨k,i,hk⟩:=hs
   rw [e]at hk;cases hk
  | some r=>exact ⟨r,rfl⟩
 replace st:=st.sel 4 [0,1,3]
 simp only [List.eraseIdx_cons_succ,List.eraseIdx_cons_zero,BU,BV,An]at st
 obtain ⟨A,m,c,rfl,hm,hmc,hcm,_⟩:=st.row 2 rfl
 rw [K9]at hm
 simp only [maxLen]at hcm
 refine Ac Tryz.func51 rfl fun _=> ?_
 refine Hx rfl (fun _ _ _ hh=>hh) (Bu ?_)
 refine xv (P3 (kv:=AU)) ?_
 rintro _ hp ⟨q,rfl,hnew⟩
 replace st:=st.new hnew
 refine AB ?_
 refine xj (i:=1) st 2 fun hp st=> ?_
 simp only [z0,z1]at st
 refine AL ?_
 refine xc st 2 1 ?_
 refine AF ?_
 refine xc st 2 2 ?_
 refine xk (bK st.here) rfl ?_
 rintro _ hp2 st2
 replace st:=st.trans st2
 refine Aj ?_
 refine xc st 2 3 ?_
 refine AJ ?_
 refine BD (fun s=>m-s) (fun s=>[(0,.pointer (some ⟨p,1,none⟩)),(1,.int .i64 n),(24,.slice A m c),(25,nV m),(26,nV s)])
  (fun (s:Nat) hp=>s≤m∧St B h0 hp (Dj AU q (Ct ((wl.take s).foldl Br safe))::Dj AU r (Ct safe)::pt p 63 [vd,.map (some q),.map (some r),.slice A m c,a4,a5,a6,a7]::row 176 3 (.slice A m c) (DF wl)::F))
  0 (CP rfl rfl rfl rfl rfl) ⟨Nat.zero_le _,st⟩ ?_
 clear st st2 st0
 rintro s hp ⟨hsm,st⟩
 refine AH ?_
 refine AK rfl (fun h=> ?_) (fun h=> ?_)
 ·obtain ⟨c1,hc1⟩:∃c1,wl[s]? =some c1:=⟨_,z9 (by omega)⟩
  obtain ⟨g,_,_,e1,_⟩:=st.row0 3 rfl (by rw [K9];omega)
  cases e1
  have hcs:=St.flatAt DL 3 (fun _=>rfl) (by omega) st 3 rfl hc1
  refine AL ?_
  refine xa (Bp rfl rfl rfl (by omega)) ?_
  refine xa (Ai (vs:=DL c1) hcs rfl rfl rfl rfl) ?_
  refine xn st fun p5 hp st=>AC ?_
  refine xw (us:=DL c1) st 0 (R6 _) fun hp st=> ?_
  simp only [z0]at st
  refine AP ?_
  refine AK rfl (fun h=> ?_) (fun h=> ?_)
  ·replace st:=st.tail
   refine AF ?_
   have st6:=((st.sel 3 [2,0,1]).mpPut (o:=some q) 1 rfl).mpPut (o:=some r) 2 rfl
   refine xk (Pq st6.here) rfl ?_
   rintro _ hp3 ⟨vs',vw',st7⟩
   replace st:=st6.trans st7
   refine AB ?_
   exact ⟨s,_,_,_,st⟩
  ·replace st:=st.sel 2 [1,0]
   simp only [BU,BV,An]at st
   refine AH ?_
   refine xc st 3 1 ?_
   refine xa (Ai (vs:=DL c1) (st.cells 1 rfl) rfl rfl rfl rfl) ?_
   refine xk (UI st.here) rfl ?_
   rintro _ hp2 st2
   replace st:=st.trans st2
   refine AL ?_
   refine Ad (s+1) (CP rfl rfl rfl rfl rfl) ⟨by omega,?_⟩ (by omega)
   have e:(wl.take (s+1)).foldl Br safe=Br ((wl.take s).foldl Br safe) c1:=by
    rw [List.take_add_one,hc1,List.foldl_append];rfl
   rw [e]
   exact st.sel 2 [0]
 ·refine AF ?_
  have st6:=((st.sel 3 [2,0,1]).mpPut (o:=some q) 1 rfl).mpPut (o:=some r) 2 rfl
  refine xk (Pq st6.here) rfl ?_
  rintro _ hp3 ⟨vs',vw',st7⟩
  replace st:=st6.trans st7
  refine AB ?_
  exact ⟨s,_,_,_,st⟩
end Go.Bn
end

section
namespace Go.Bn
open Go Proofs
theorem Z5 {n c k:Nat} {A:Option Addr} {l:List C5} {lb:List Value} {h0:AA} (hr:Rd h0 A (l.flatMap DL)) (hl:l.length=n) (hn:n≤1073741824) (hc:EB Tryz.prog k=true)
  (hf:∀ (x:C5) (h:AA),AV h0 h→AG Tryz.prog k (.agg (DL x).toArray::lb) h fun v h'=>(∃b,v= .bool b)∧AV h h'):
  AG Tryz.prog 278 [.slice A n c,.func (.func k) #[] lb.toArray] h0 fun v h'=>(∃i:Int,v= .int .i64 i)∧AV h0 h':=by
 refine Ac Tryz.func278 rfl fun _=>By ?_
 refine BD (fun s=>n-s) (fun s=>[(0,.slice A n c),(1,.func (.func k) #[] lb.toArray),(7,nV n),(8,nV s)])
  (fun (s:Nat) hp=>s≤n∧AV h0 hp) 0 (Bt rfl rfl rfl rfl) ⟨Nat.zero_le _,AV.refl _⟩ ?_
 rintro s hp ⟨hs,hx⟩
 refine AH ?_
 refine AK rfl (fun h=> ?_) (fun h=> ?_)
 ·obtain ⟨bb,o,rfl,hc0⟩:=Rd.flat DL 3 hr (fun _=>rfl) (by omega) (by omega)
  have hcs:=fun j u (h:(DL (l[s]'(by omega)))[j]? =some u)=>Bz (a:=⟨bb,o+s*3+j,none⟩) hx (hc0 s (by omega) j u h)
  refine B3 ?_
  refine xa (Bp (i:=s) rfl rfl rfl (by omega)) ?_
  refine xa (Ai (vs:=DL (l[s]'(by omega))) hcs rfl rfl rfl rfl) ?_
  refine xv (IJ rfl (hf _ _ hx) rfl (hc)) ?_
  rintro _ hp2 ⟨⟨b,rfl⟩,hx2⟩
  refine AC ?_
  refine C6 rfl (fun h=> ?_) (fun h=> ?_)
  ·refine AL ?_
   exact ⟨⟨_,rfl⟩,hx.trans hx2⟩
  ·refine AL ?_
   exact Ad (s+1) (Bt rfl rfl rfl rfl) ⟨by omega,hx.trans hx2⟩ (by omega)
 ·refine AL ?_
  exact ⟨⟨_,rfl⟩,hx⟩
theorem Yy {n c k:Nat} {A:Option Addr} {l:List C5} {lb:List Value} {h0:AA} (hr:Rd h0 A (l.flatMap DL)) (hl:l.length=n) (hn:n≤1073741824) (hc:EB Tryz.prog k=true)
  (hf:∀ (x:C5) (h:AA),AV h0 h→AG Tryz.prog k (.agg (DL x).toArray::lb) h fun v h'=>(∃b,v= .bool b)∧AV h h'):
  AG Tryz.prog 250 [.slice A n c,.func (.func k) #[] lb.toArray] h0 fun v h'=>(∃b,v= .bool b)∧AV h0 h':=by
 refine Ac Tryz.func250 rfl fun _=>AP ?_
 refine xk (Z5 hr hl hn hc hf) rfl ?_
 rintro _ hp2 ⟨⟨i,rfl⟩,hx⟩
 refine AJ ?_
 exact ⟨⟨_,rfl⟩,hx⟩
theorem aq {p:Nat} {i:Int} {x:C5} {h0:AA} (hc:Az h0 ⟨p,0,none⟩=some (.int .i64 i)):
  AG Tryz.prog 251 [.agg (DL x).toArray,.pointer (some ⟨p,0,none⟩)] h0 fun v h'=>(∃b,v= .bool b)∧AV h0 h':=by
 have st:=St.start h0
 refine Ac Tryz.func251 rfl fun _=>AB ?_
 refine xv (Bv (cs:=DL x) rfl rfl) ?_
 rintro _ hp ⟨p3,rfl,hnew⟩
 have hx:=hnew.1
 replace st:=st.new hnew
 refine AH ?_
 refine xc st 0 0 ?_
 refine xa (GS (b:=[]) rfl rfl) (AC ?_)
 refine Am 7 rfl (fun h=> ?_) (fun h=> ?_)
 ·refine AC ?_
  refine xc st 0 2 ?_
  refine xl (Bz hx hc) rfl (AH ?_)
  exact ⟨⟨_,rfl⟩,hx⟩
 ·refine AP ?_
  exact ⟨⟨_,rfl⟩,hx⟩
theorem Z8 {n c:Nat} {x:Int} {A:Option Addr} {l:List Nat} {h0:AA} (hr:Rd h0 A (l.map nV)) (hl:l.length=n) (hn:n≤1073741824) (hm:∃y∈l,(y:Int)=x):
  AG Tryz.prog 279 [.slice A n c,.int .i64 x] h0 fun v h'=>(∃i:Nat,v= .int .i64 (i:Int))∧h0=h':=by
 refine Ac Tryz.func279 rfl fun _=>By ?_
 refine BD (fun s=>n-s) (fun s=>[(0,.slice A n c),(1,.int .i64 x),(7,nV n),(8,nV s)])
  (fun (s:Nat) hp=>s≤n∧(∃y∈l.drop s,(y:Int)=x)∧h0=hp) 0 (Bt rfl rfl rfl rfl) ⟨Nat.zero_le _,hm,rfl⟩ ?_
 rintro s hp ⟨hs,hm,rfl⟩
 refine AH ?_
 refine AK rfl (fun h=> ?_) (fun h=> ?_)
 ·obtain ⟨bb,o,rfl,hc0⟩:=hr.at_ (by rw [z3];omega)
  have hcs:=hc0 s (nV (l[s]'(by omega))) (by rw [zr,z9 (by omega)];rfl)
  refine Bq ?_
  refine xl (hcs) rfl (AB ?_)
  refine AK rfl (fun h=> ?_) (fun h=> ?_)
  ·refine AL ?_
   exact ⟨⟨_,rfl⟩,rfl⟩
  ·have hm:∃y∈l.drop (s+1),(y:Int)=x:=by
    obtain ⟨y,hy,e⟩:=hm
    rw [List.drop_eq_getElem_cons (by omega)]at hy
    rcases List.mem_cons.1 hy with hy | hy
    ·exact absurd (hy▸e.symm) h
    ·exact ⟨y,hy,e⟩
   refine AL ?_
   exact Ad (s+1) (Bt rfl rfl rfl rfl) ⟨by omega,hm,rfl⟩ (by omega)
 ·obtain ⟨y,hy,e⟩:=hm
  rw [List.drop_of_length_le (by omega)]at hy
  exact absurd hy zl
theorem Y1 {n c:Nat} {x:Int} {A:Option Addr} {l:List Nat} {h0:AA} (hr:Rd h0 A (l.map nV)) (hl:l.length=n) (hn:n≤1073741824) (hm:∃y∈l,(y:Int)=x):
  AG Tryz.prog 252 [.slice A n c,.int .i64 x] h0 fun v h'=>v= .bool true∧h0=h':=by
 refine Ac Tryz.func252 rfl fun _=>AP ?_
 refine xk (Z8 hr hl hn hm) rfl ?_
 rintro _ _ ⟨⟨i,rfl⟩,rfl⟩
 refine AC ?_
 refine AT (.bool true) (congrArg Value.bool (decide_eq_true (by omega))) (AF ?_)
 exact ⟨rfl,rfl⟩
theorem gV {o:Option Nat} {h0:AA}:AG Tryz.prog 254 [.map o] h0 fun v h'=>∃p,v= .func (.func 281) #[] #[.pointer (some ⟨p,0,none⟩)]∧EZ (pt p 57 [.map o]) h0 h':=by
 refine BE Tryz.func254 rfl fun _=>AB ?_
 refine xv (Bv (cs:=[.map o]) rfl rfl) ?_
 rintro _ hp ⟨p,rfl,hnew⟩
 refine AP ?_
 exact ⟨_,rfl,hnew⟩
theorem gU {B y p q N:Nat} {f:Nm} {es:Array MapEntry} {ck:Nat} {F:List AE} {h0:AA} (JR:List Nat→List AE) (hes:DK AU es ck (Ct f)) (hb:h0[q]? =some (.map es ck)) (hq:q<B) (hc:Az h0 ⟨p,0,none⟩=some (.map (some q))) (st0:St B h0 h0 (JR []++F)) (ks:List (List UInt8)) (hks:∀k i,f k=some i→k∈ks) (hN:ks.length≤N)
  (hround:∀ (s:List Nat) (x:Nat) (F':List AE) (h:AA),BC B h0 h→s.length<N→St B h h (JR s++F')→FJ Tryz.prog y [nV x] h fun u h'=>u= .bool true∧St B h h' (JR (s++[x])++F')):
  AG Tryz.prog 281 [.func (.yield y) #[] #[],.pointer (some ⟨p,0,none⟩)] h0 fun _ h'=>∃P,(P.length≤N∧∀k i,f k=some i→i∈P)∧St B h0 h' (JR P++F):=by
 refine Ac Tryz.func281 rfl fun _=>AB ?_
 refine xl (hc) rfl ?_
 refine xv (Ui He hes hb st0 rfl rfl) ?_
 rintro _ hp ⟨_,qi,rem,rfl,hall,hlen,st⟩
 have hl:=hlen ks (fun k v h=>by
  unfold Ct at h
  cases hk:f k with
  | none=>rw [hk]at h;cases h
  | some i=>exact hks k i hk)
 refine AB ?_
 refine BD (fun s=>s.1.length) (fun s=>[(0,.func (.yield y) #[] #[]),(6,.pointer (some ⟨qi,0,none⟩))])
  (fun (s:List (List UInt8×Value)×List Nat×Option (List UInt8×Value)) hp=>(∀k v,(k,v)∈s.1→Ct f k=some v)∧(∀k i,f k=some i→(k,nV i)∈s.1∨i∈s.2.1)∧s.2.1.length+s.1.length≤N∧St B h0 hp (JV AU q qi es ck s.1 s.2.2::(JR s.2.1++F)))
  (rem,[],none) (Cu rfl rfl) ⟨fun k v h=>(hall k v).1 h,fun k i h=> .inl ((hall k _).2 (by unfold Ct;rw [h];rfl)),by simp only [zk];omega,st⟩ ?_
 clear hall hlen hl st st0
 rintro ⟨rem,s,last⟩ hp ⟨h1,h2,h3,st⟩
 simp only at h1 h2 h3 st ⊢
 refine AB ?_
 refine xv (Uh 0 hes ((st.low.blk q hq).trans hb) st rfl rfl) ?_
 refine fun u hp hd=>hd.symm.elim (fun hd=> ?_) (fun hd=> ?_)
 ·obtain ⟨i,k,v,hri,rfl,_,st⟩:=hd
  simp only [z0]at st
  obtain ⟨x,hx⟩:∃x,f k=some x:=by
   have:=h1 k v (List.mem_of_getElem? hri)
   unfold Ct at this
   cases hk:f k with
   | none=>rw [hk]at this;cases this
   | some x=>exact ⟨x,rfl⟩
  obtain rfl:v=nV x:=by
   have:=h1 k v (List.mem_of_getElem? hri)
   unfold Ct at this
   rw [hx]at this;cases this;rfl
  have hil:=(zc.1 hri).1
  refine AP ?_
  refine xv (Ug hes ((st.low.blk q hq).trans hb) st 0 rfl rfl) ?_
  rintro _ _ ⟨rfl,rfl⟩
  have st3:=st.perm (zb [_] (JR s) F)
  refine AO ?_
  refine Ia (Io rfl (hround s x _ _ st3.low (by omega) st3.here) rfl) rfl rfl rfl ?_
  rintro _ hp3 ⟨rfl,st4⟩
  replace st:=(st3.trans st4).perm (zb (JR (s++[x])) [JV AU q qi es ck (rem.eraseIdx i) (some (k,nV x))] F)
  refine xa (Bm rfl) (AJ ?_)
  refine Ad (rem.eraseIdx i,s++[x],some (k,nV x)) (Cu rfl rfl) ⟨fun k v h=>h1 k v (UA h),fun j u h=> ?_,?_,st⟩ ?_
  ·rcases h2 j u h with h' | h'
   ·rcases Ph (i:=i) h' with h' | h'
    ·exact .inl h'
    ·rw [hri]at h'
     cases h'
     rw [hx]at h
     cases h
     exact .inr (List.mem_append_right _ zp)
   ·exact .inr (List.mem_append_left _ h')
  ·simp only [z2,zm,List.length_eraseIdx]
   rw [if_pos hil];omega
  ·simp only [List.length_eraseIdx]
   rw [if_pos hil];omega
 ·obtain ⟨rfl,rfl,rfl⟩:=hd
  refine AL ?_
  refine ⟨s,⟨by simp only [zk]at h3;omega,fun k i h=> ?_⟩,st.tail⟩
  rcases h2 k i h with h | h
  ·cases h
  ·exact h
theorem Xp {B gf N:Nat} {lb:List Value} {Q:List Nat→Prop} {F F2:List AE} {h0:AA} (st0:St B h0 h0 F) (hc:EB Tryz.prog gf=true) (hN:N≤1048576)
  (hiter:∀ (JR:List Nat→List AE) (G:List AE) (y:Nat) (h:AA),BC B h0 h→St B h h (F++(JR []++G))→
   (∀ (s:List Nat) (x:Nat) (F':List AE) (h':AA),BC B h h'→s.length<N→St B h' h' (JR s++F')→FJ Tryz.prog y [nV x] h' fun u h''=>u= .bool true∧St B h' h'' (JR (s++[x])++F'))→
   AG Tryz.prog gf (.func (.yield y) #[] #[]::lb) h fun _ h'=>∃P,Q P∧St B h h' (F2++(JR P++G))):
  AG Tryz.prog 280 [.slice none 0 0,.func (.func gf) #[] lb.toArray] h0 fun v h'=>∃P,Q P∧St B h0 h' (Bn.row 3 1 v (P.map nV)::F2):=by
 refine Ac Tryz.func280 rfl fun _=>AB ?_
 refine xv (Bv rfl rfl) ?_
 rintro _ hp ⟨p,rfl,hnew⟩
 have st:=(st0.new hnew).nilrow 3 1
 refine AP ?_
 refine GL st rfl rfl hc fun fn tmps L y d hp1 hL hok hx1 st1=> ?_
 obtain ⟨JR,hJR⟩:∃JR:List Nat→List AE,JR=fun s=>[BG y (L .ready none),Cb fun v=>CD (Bn.row 3 1 v (s.map nV)) (pt p 61 [v])]:=⟨_,rfl⟩
 have st2:St B h0 hp1 (F++(JR []++[BG d (.deferred (some []))])):=by
  have s3:St B h0 hp1 (Bn.row 3 1 (.slice none 0 0) []::pt p 61 [.slice none 0 0]::BG y (L .ready none)::BG d (.deferred (some []))::F):=st1.sel 4 [2,3,0,1]
  have s4:St B h0 hp1 ((Cb fun v=>CD (Bn.row 3 1 v (([]:List Nat).map nV)) (pt p 61 [v]))::BG y (L .ready none)::BG d (.deferred (some []))::F):=St.ex.2 ⟨Value.slice none 0 0,St.star.2 s3⟩
  rw [hJR]
  exact (s4.sel 3 [1,0,2]).perm (List.perm_append_comm (l₁:=[BG y (L .ready none),Cb fun v=>CD (Bn.row 3 1 v (([]:List Nat).map nV)) (pt p 61 [v]),BG d (.deferred (some []))]) (l₂:=F))
 refine AG.mono (hiter JR [BG d (.deferred (some []))] y hp1 st2.low st2.here ?_) ?_
 ·intro s u0 F' h hlow hsP st3
  subst hL
  subst hJR
  simp only [z5,z4]at st3
  obtain ⟨v9,st3⟩:=St.ex.1 (st3.perm (List.Perm.swap _ _ _))
  have st:=(St.star.1 st3)
  refine GZ (st.obj_at 2 rfl) hok rfl rfl fun w0 hw0=> ?_
  simp only [E2]
  refine AF ?_
  refine GJ (st.obj_at 2 rfl) ?_
  replace st:=st.loop 2 .busy none rfl
  simp only [z0,z1]at st
  refine AB ?_
  refine xc st 1 0 ?_
  refine AC ?_
  refine xv (Ep rfl rfl rfl) ?_
  rintro _ hp ⟨A,rfl,hx,hrd⟩
  have st:=st.ext hx
  refine BN (BY st 0 rfl (hrd) (rfl) (by simp [Value.one]) (by simp;omega) rfl rfl rfl rfl rfl rfl rfl) rfl rfl rfl fun v hp st=> ?_
  simp only [z0,z1]at st
  rw [show s.map nV++[nV u0]=(s++[u0]).map nV by rw [List.map_append];rfl]at st
  obtain ⟨A6,n6,c6,rfl,_⟩:=st.row 0 rfl
  refine xj st 1 fun hp st=> ?_
  simp only [z0,z1]at st
  refine AB ?_
  refine FL (st.obj_at 2 rfl) ⟨rfl,?_⟩
  replace st:=st.loop 2 .ready none rfl
  simp only [z0,z1]at st
  have s6:=(St.ex.2 ⟨_,St.star.2 st⟩:St B h _ ((Cb fun v=>CD (Bn.row 3 1 v ((s++[u0]).map nV)) (pt p 61 [v]))::_))
  exact s6.perm (List.Perm.swap _ _ _)
 rintro _ h' ⟨P,hQ,st3⟩
 subst hJR
 have st3:=st3.perm (List.perm_append_comm (l₁:=F2) (l₂:=_))
 simp only [z5,z4]at st3
 refine .inl ⟨_,st2.trans st3,fun hp3 st4=> ?_⟩
 obtain ⟨v9,st4⟩:=St.ex.1 (st4.perm (List.Perm.swap _ _ _))
 have st:=St.star.1 st4
 refine AF ?_
 refine xc st 1 0 ?_
 refine AB ?_
 refine Gg (d:=d) (.cons (.tmp rfl) .nil) ?_ (st.obj_at 3 rfl)
 replace st:=st.put 3 (.deferred none) rfl
 exact ⟨P,hQ,st.sel 4 [0]⟩
theorem Yu {B gf N:Nat} {lb:List Value} {Q:List Nat→Prop} {F F2:List AE} {h0:AA} (st0:St B h0 h0 F) (hc:EB Tryz.prog gf=true) (hN:N≤1048576)
  (hiter:∀ (JR:List Nat→List AE) (G:List AE) (y:Nat) (h:AA),BC B h0 h→St B h h (F++(JR []++G))→
   (∀ (s:List Nat) (x:Nat) (F':List AE) (h':AA),BC B h h'→s.length<N→St B h' h' (JR s++F')→FJ Tryz.prog y [nV x] h' fun u h''=>u= .bool true∧St B h' h'' (JR (s++[x])++F'))→
   AG Tryz.prog gf (.func (.yield y) #[] #[]::lb) h fun _ h'=>∃P,Q P∧St B h h' (F2++(JR P++G))):
  AG Tryz.prog 253 [.func (.func gf) #[] lb.toArray] h0 fun v h'=>∃P,Q P∧St B h0 h' (Bn.row 3 1 v (P.map nV)::F2):=by
 refine BE Tryz.func253 rfl fun _=>AO ?_
 refine xk (Xp st0 hc hN hiter) rfl ?_
 rintro v hp h
 refine AF ?_
 exact h
theorem be {p id q n c ck:Nat} {A:Option Addr} {es:Array MapEntry} {now:Nm} {wl:List C5} {k:List UInt8} {h0:AA}
  (c1:Az h0 ⟨p,1,none⟩=some (.map (some q))) (hes:DK AU es ck (Ct now)) (hb:h0[q]? =some (.map es ck)) (c3:Az h0 ⟨p,3,none⟩=some (.slice A n c)) (hrd:Rd h0 A (DF wl)) (hn:wl.length=n) (hw:n≤1048576)
  (hk:now k=some id) (ks:List (List UInt8)) (hks:∀k i,now k=some i→k∈ks) (hk2:ks.length≤1000):
  AG Tryz.prog 219 [.pointer (some ⟨p,1,none⟩),nV id] h0 fun v h'=>v= .bool true∧AV h0 h':=by
 have st:=St.start h0
 have hq:=(Array.getElem?_eq_some_iff.1 hb).1
 refine Ac Tryz.func219 rfl fun _=>AB ?_
 refine xv (Bv (cs:=[nV id]) rfl rfl) ?_
 rintro _ hp ⟨p3,rfl,hnew⟩
 replace hrd:=hrd.ext hnew.1
 replace st:=st.new hnew
 refine Cp ?_
 refine xl (Bz (a:=⟨p,3,none⟩) st.low c3) rfl (AC ?_)
 refine xk (Yy (lb:=[.pointer (some ⟨p3,0,none⟩)]) hrd hn (by omega) (by kernel_rfl) (fun x h hx=>aq (Bz hx (st.cell 0 (i:=0) rfl rfl)))) rfl ?_
 rintro _ hp2 ⟨⟨b,rfl⟩,hx2⟩
 replace st:=st.ext hx2
 refine AF ?_
 refine GK ((Ck [(6,.grow),(7,.grow),(16,.grow),(17,.grow)])) [0,1,2,3,4,5,8,6,7,9,10,11,12,13,14,15,18,16,17,19,20,21] (by kernel_rfl) (by kernel_rfl) rfl (AB ?_)
 refine RQ 15 rfl (fun h=> ?_) (fun h=> ?_)
 ·subst h
  refine IU ?_
  exact ⟨rfl,st.low⟩
 ·refine AF ?_
  refine xl (Bz (a:=⟨p,1,none⟩) st.low c1) rfl ?_
  refine xc st 0 0 ?_
  refine BW (CT (gV) rfl (by kernel_rfl)) rfl rfl rfl (fun _ _ ⟨_,_,h⟩=>h.1) ?_
  rintro _ hp3 ⟨p4,rfl,hnew⟩
  replace st:=st.new hnew
  have hc4:=st.cell 0 (i:=0) rfl rfl
  refine BW (CT (Yu (N:=1000) (lb:=[.pointer (some ⟨p4,0,none⟩)]) (Q:=fun P=>P.length≤1000∧∀k i,now k=some i→i∈P) (F2:=[]) (St.start hp3) (by kernel_rfl) (by omega) (fun JR G y h hlow s hround=>gU JR hes ((hlow.blk q (Nat.lt_of_lt_of_le hq st.low.size)).trans ((st.low.blk q hq).trans hb)) (Nat.lt_of_lt_of_le hq st.low.size) ((Yd hlow (R4 hc4)).trans hc4) s ks hks hk2 hround)) rfl (by kernel_rfl)) rfl rfl rfl (fun _ _ ⟨_,_,h⟩=>h.low) ?_
  rintro _ hp5 ⟨P,⟨hP1,hP2⟩,st5⟩
  replace st:=st.join st5
  simp only [z5,z4]at st
  obtain ⟨A5,n5,c5,rfl,hn5,_,_,hrd5⟩:=st.row 0 rfl
  rw [z3,zf]at hn5
  refine xk (Y1 hrd5 hn5 (by omega) ⟨id,hP2 _ _ hk,rfl⟩) rfl ?_
  rintro _ _ ⟨rfl,rfl⟩
  refine Bq ?_
  exact ⟨rfl,st.low⟩
end Go.Bn
end

section
namespace Go.Bn
open Go
section
variable {P:Program} {E:Au} {hp:AA} {cl:Ca} {d:Option Tmp} {ty:TypeId} {pos:String} {af:Array Edge} {g:Option (Nat×Bool)}
variable {x y z:Operand} {t t':TypeId}
theorem Ua {lo hi mx:Operand} {sz l h m n c:Nat} {k k' k2:IntKind} {A:Option Addr} (hx:ev E x=some (.slice A n c)) (hlo:ev E lo=some (.int k (l:Int))) (hhi:ev E hi=some (.int k' (h:Int))) (hmx:ev E mx=some (.int k2 (m:Int))) (ht:Iv P t=some sz)
  (hlh:l≤h) (hhm:h≤m) (hmc:m≤c):BB cl P ⟨d,.slice t x (some lo) (some hi) (some mx),ty,pos,af,g⟩ E hp (.slice (Eb A l sz m) (h-l) (m-l)):=
 .of_pure fun _ a ho w'=>by
  obtain ⟨e,i,hu,hi',hs⟩:=MK ht
  have h1:(l:Int)≤(h:Int):=by omega
  have h2:(h:Int)≤(m:Int):=by omega
  have h3:(m:Int)≤(c:Int):=by omega
  simp [execOp,ho.eval hx,ho.eval hlo,ho.eval hhi,ho.eval hmx,Instr.sliceAt,Instr.slice,run_underlying hu,Instr.sliceBounds,Instr.sliceBound,asIntOf,sizeOf,typeInfo,hi',hs,Eb,hlh,hhm,hmc]
theorem O1 (l:List UInt8) (i j:Nat):(str l).extract i j=str ((l.take j).drop i):=by
 apply ByteArray.ext
 apply Array.toList_inj.1
 simp [str,List.extract_eq_take_drop,List.take_drop]
 rcases Nat.le_total i j with h | h
 ·rw [Nat.add_sub_cancel' h]
 ·rw [Nat.sub_eq_zero_of_le h,Nat.add_zero,List.drop_eq_nil_of_le (by rw [z6];omega),List.drop_eq_nil_of_le (by rw [z6];omega)]
theorem cD {lo hi:Operand} {i j:Nat} {k k':IntKind} {l:List UInt8} (hx:ev E x=some (.string (str l))) (hlo:ev E lo=some (.int k (i:Int))) (hhi:ev E hi=some (.int k' (j:Int))) (ht:Ed P t=true) (hij:i≤j) (hj:j≤l.length):
  BB cl P ⟨d,.slice t x (some lo) (some hi) none,ty,pos,af,g⟩ E hp (.string (str ((l.take j).drop i))):=
 .of_pure fun _ a ho w'=>by
  have hu:P.underlying t=some .string:=by
   unfold Ed at ht
   split at ht
   ·assumption
   ·cases ht
  simp [execOp,ho.eval hx,ho.eval hlo,ho.eval hhi,Instr.sliceAt,Instr.slice,run_underlying hu,Instr.sliceBounds,Instr.sliceBound,asIntOf,HO,hij,hj,O1]
theorem Pz {lo:Operand} {i:Nat} {k:IntKind} {l:List UInt8} (hx:ev E x=some (.string (str l))) (hlo:ev E lo=some (.int k (i:Int))) (ht:Ed P t=true) (hi:i≤l.length):
  BB cl P ⟨d,.slice t x (some lo) none none,ty,pos,af,g⟩ E hp (.string (str (l.drop i))):=
 .of_pure fun _ a ho w'=>by
  have hu:P.underlying t=some .string:=by
   unfold Ed at ht
   split at ht
   ·assumption
   ·cases ht
  simp [execOp,ho.eval hx,ho.eval hlo,Instr.sliceAt,Instr.slice,run_underlying hu,Instr.sliceBounds,Instr.sliceBound,asIntOf,HO,hi,O1]
theorem Ub {hi:Operand} {j:Nat} {k:IntKind} {l:List UInt8} (hx:ev E x=some (.string (str l))) (hhi:ev E hi=some (.int k (j:Int))) (ht:Ed P t=true) (hj:j≤l.length):
  BB cl P ⟨d,.slice t x none (some hi) none,ty,pos,af,g⟩ E hp (.string (str (l.take j))):=
 .of_pure fun _ a ho w'=>by
  have hu:P.underlying t=some .string:=by
   unfold Ed at ht
   split at ht
   ·assumption
   ·cases ht
  simp [execOp,ho.eval hx,ho.eval hhi,Instr.sliceAt,Instr.slice,run_underlying hu,Instr.sliceBounds,Instr.sliceBound,asIntOf,HO,hj,O1]
theorem cU {e b:Nat} {zv:Value} {l:List UInt8} (hx:ev E x=some (.string (str l))) (ht:Ed P t=true) (ht':DA P t'=some (e,1,b,[zv])) (he:P.underlying e=some (.int .u8)) (hl:l.length≤maxLen):
  Bd P ⟨d,.convert t t' x,ty,pos,af,g⟩ E hp (fun u hp'=>EZ (row e 1 u (l.map AN)) hp hp'):=by
 intro n a w ho hw K hK
 subst hw
 have hu:P.underlying t=some .string:=by
  unfold Ed at ht
  split at ht
  ·assumption
  ·cases ht
 obtain ⟨i,z,hu',hi,hz,hs,hbt,hzc⟩:=FW ht'
 have hge:=grownCap_ge w l.length 0 e
 have hcm:=grownCap_le_maxLen w l.length 0 e hl
 obtain ⟨cur,hcur⟩:∃cur:Array Value,(l.toArray.map fun b=>Value.int .u8 (b.toNat:Int))++Array.replicate (grownCap w l.length 0 e-l.length) (Value.int .u8 0)=cur:=⟨_,rfl⟩
 have hsz:cur.size=grownCap w l.length 0 e:=by rw [←hcur];simp;omega
 have hb:(w.drew.alloc (.cells cur e)).heap[w.heap.size]? =some (.cells cur e (0,0)):=Jn _ _
 obtain ⟨fr',k1,k2,k3,k4,k5⟩:=S7 (n:=cur.size) hb (.inl rfl)
 have hrun:(execOp a.eval ⟨d,.convert t t' x,ty,pos,af,g⟩).run P w= .ok (.value (.slice (some ⟨w.heap.size,0,none⟩) l.length (grownCap w l.length 0 e))) ((w.drew.alloc (.cells cur e)).freeze ⟨w.heap.size,cur.size,none⟩ 1):=by
  have hcv:(Conv.stringToBytes e (str l)).run P w= .ok (.slice (some ⟨w.heap.size,0,none⟩) l.length (grownCap w l.length 0 e)) ((w.drew.alloc (.cells cur e)).freeze ⟨w.heap.size,cur.size,none⟩ 1):=by
   unfold Conv.stringToBytes
   have hg:(choose (.appendCap l.length 0 e)).run P w= .ok (grownCap w l.length 0 e) w.drew:=by simp [choose,Sem.run,Question.forced,grownCap]
   simp only [Sem.run_bind,HO,fS,hg,Result.andThen_ok,hcur]
   have hn:(newRow e cur).run P w.drew= .ok ⟨w.heap.size,0,none⟩ (w.drew.alloc (.cells cur e)):=rfl
   have hm:∀W:World,W.heap[w.heap.size]? =some (.cells cur e (0,0))→(markStringish ⟨w.heap.size,0,none⟩).run P W= .ok () (W.freeze ⟨w.heap.size,cur.size,none⟩ 1):=by
    intro W hW
    simp [markStringish,shape,Sem.run,World.shape?,hW,freeze,pure]
   simp only [hn,Result.andThen_ok,hm _ hb,Sem.run_pure]
  simp [execOp,ho.eval hx,convert,run_underlying hu,run_underlying hu',run_underlying he,hcv]
 simp only [Oper.wp,hrun,Oper.upon]
 refine hK _ _ ⟨k5.os,k5.tape,k5.output⟩ ⟨⟨by rw [k3];exact (Fg _ _).size,fun k hk=>by rw [k4 k (by omega)];exact (Fg _ _).blk k hk⟩,fun k=>k=w.heap.size,?_,fun k hk=>by omega⟩
 refine .inr ⟨w.heap.size,l.length,_,cur,fr',rfl,k1,hge,hcm,by rw [hsz,zf],?_,by simp,k2,fun _=>Iff.rfl⟩
 rw [←hcur,zf]
 simp [AN]
end
end Go.Bn
end

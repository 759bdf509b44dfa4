/- Packed texts of a claim: what its theorem uses, joined. -/
import Derived.Test.YtcakpngelbhkfaaGreatDoorPkTopBetween14
set_option maxRecDepth 100000
set_option maxHeartbeats 4000000
set_option linter.unusedVariables false
set_option linter.unusedSimpArgs false
set_option linter.unusedSectionVars false
set_option linter.defProp false
section
namespace Go.Bn
open Go Proofs
theorem St.rdF {B e sz n c:Nat} {A:Option Addr} {vs:List Value} {rs F:List AE} {h0 hp:AA} (s:St B h0 hp (rs++(Bn.row e sz (.slice A n c) vs::F))):Rd hp A vs:=(s.rdS (sz:=sz) (e:=e) (n:=n) (c:=c) rs.length (by simp)).2
theorem Fs.setD_setD (f:Fs) (i:Nat) (d e:Dk):(f.setD i d).setD i e=f.setD i e:=by simp [Fs.setD]
theorem Fs.setD_get {f:Fs} {i:Nat} {d e:Dk} (h:f.dk[i]? =some e):(f.setD i d).dk[i]? =some d:=by
 simp [Fs.setD,(zc.1 h).1]
noncomputable def Hf (f:Fs) (d:Dk):Fs:=(f.make Ch).setD f.dk.length d
noncomputable def EG (f:Fs) (img:List UInt8):Fs:=((Hf f (Dk.nil.write 0 img).sync).doN Id).syncD
def RJ (f:Fs) (img:List UInt8) (f':Fs):Prop:=f'=f∨(∃d,f'=Hf f d∨f'=(Hf f d).doN Mm∨f'=((Hf f d).doN Mm).syncD)∨f'=(Hf f (Dk.nil.write 0 img).sync).doN Id
theorem Pc (f:Fs):(f.make Ch).dk[f.dk.length]? =some Dk.nil:=by simp [Fs.make,Fs.doN]
theorem aS (f:Fs):Hf f Dk.nil=f.make Ch:=Fs.setD_same (Pc f)
theorem Tf (f:Fs) (d:Dk) (hE:f.now []=none):(Hf f d).now Ch=some f.dk.length:=by
 show Br f.now ⟨[],Ch,f.dk.length⟩ Ch=_
 simp [Br,hE]
theorem Ye {B p cap S j m c:Nat} {A:Option Addr} {img:List UInt8} {f:Fs} {F:List AE} {h0:AA} (st0:St B h0 h0 (BF p cap f::F)) (hfit:f.fit S cap) (hd:f.dk[j]? =some Dk.nil) (hN:f.now Ch=some j) (hr:∀h' rs,St B h0 h' (rs++F)→Rd h' A (img.map AN)) (hl:img.length=m) (hmc:m≤c) (hS:Ba (0+m)≤S) (hm:m≤2097152):
  AG Tryz.prog 133 [AM p,nV j,AU B7,.slice A m c] h0 fun v h'=>(v=nV 0∧St B h0 h' (BF p cap ((f.setD j (Dk.nil.write 0 img).sync).doN Id)::F))∨(v=nV 10∧f.quiet=false∧∃d,St B h0 h' (BF p cap (f.setD j d)::F)):=by
 refine Gx Tryz.func133 rfl fun _=>BP ?_
 refine xk (MQ (a:=0) st0 hfit hd hr hl hmc hS (by omega)) rfl ?_
 refine fun v hp1 hh=>hh.elim (fun hh=> ?_) (fun hh=> ?_)
 ·obtain ⟨rfl,st⟩:=hh
  refine Bq ?_
  refine xk (OQ (S:=S) st.here (Fs.setD_get hd)) rfl ?_
  refine fun v hp2 hh=>hh.elim (fun hh=> ?_) (fun hh=> ?_)
  ·obtain ⟨rfl,st2⟩:=hh
   replace st:=st.trans st2
   rw [Fs.setD_setD]at st
   refine B3 ?_
   refine xa (Lc (b:=[46,116,109,112]) rfl rfl (by simp)) (AC ?_)
   refine xk (iF st.here hfit.wait (by simp) hN) rfl ?_
   refine fun v hp3 hh=>hh.elim (fun hh=> ?_) (fun hh=> ?_)
   ·obtain ⟨rfl,st2⟩:=hh
    replace st:=st.trans st2
    refine AF ?_
    exact .inl ⟨rfl,st⟩
   ·obtain ⟨rfl,hq,st2⟩:=hh
    replace st:=st.trans st2
    refine AF ?_
    exact .inr ⟨rfl,hq,_,st⟩
  ·obtain ⟨rfl,hq,st2⟩:=hh
   replace st:=st.trans st2
   refine Bq ?_
   exact .inr ⟨rfl,hq,_,st⟩
 ·obtain ⟨rfl,hq,st⟩:=hh
  refine Bq ?_
  exact .inr ⟨rfl,hq,Dk.nil,by rw [Fs.setD_same hd];exact st⟩
theorem R8 {B p cap S m c:Nat} {A:Option Addr} {img:List UInt8} {f:Fs} {F:List AE} {h0:AA} (st0:St B h0 h0 (BF p cap f::F)) (hfit:f.fit S cap) (hfit1:(f.make Ch).fit S cap) (hw:f.wait.length≤1000) (hT:f.now Ch=none) (hE:f.now []=none) (hdk:f.dk.length<1000) (hr:∀h' rs,St B h0 h' (rs++F)→Rd h' A (img.map AN)) (hl:img.length=m) (hmc:m≤c) (hS:Ba (0+m)≤S) (hm:m≤2097152):
  AG Tryz.prog 80 [AM p,AU B7,.slice A m c] h0 fun v h'=>(v=Al [nV f.dk.length,.bool true,nV 0]∧St B h0 h' (BF p cap (EG f img)::F))∨(f.quiet=false∧∃id b f',v=Al [nV id,.bool b,nV 10]∧RJ f img f'∧St B h0 h' (BF p cap f'::F)):=by
 have st:=st0
 refine Bg Tryz.func80 rfl fun _=>Bu ?_
 refine xa (Lc (b:=[46,116,109,112]) rfl rfl (by simp)) ?_
 refine xk (OP (k:=Ch) st.here) rfl ?_
 rintro _ _ ⟨rfl,rfl⟩
 rw [hT]
 refine EY ?_
 refine xa (Lc (b:=[46,116,109,112]) rfl rfl (by simp)) ?_
 refine xk (iB (k:=Ch) st.here hfit (by simp) hT hdk) rfl ?_
 refine fun v hp1 hh=>hh.elim (fun hh=> ?_) (fun hh=> ?_)
 ·obtain ⟨rfl,st2⟩:=hh
  replace st:=st.trans st2
  refine Hp ?_
  refine xk (Ye st.here hfit1 (Pc f) (by have:=Tf f Dk.nil hE;rwa [aS]at this) (fun h' rs s=>hr h' (rs) (st.trans s)) hl hmc hS hm) rfl ?_
  refine fun v hp1 hh=>hh.elim (fun hh=> ?_) (fun hh=> ?_)
  ·obtain ⟨rfl,st2⟩:=hh
   replace st:=st.trans st2
   refine B3 ?_
   refine xk (RD st.here) rfl ?_
   refine fun v hp1 hh=>hh.elim (fun hh=> ?_) (fun hh=> ?_)
   ·obtain ⟨rfl,st2⟩:=hh
    replace st:=st.trans st2
    refine AH ?_
    exact .inl ⟨rfl,st⟩
   ·obtain ⟨rfl,hq,st2⟩:=hh
    replace st:=st.trans st2
    refine AH ?_
    exact .inr ⟨hq,_,_,_,rfl,.inr (.inr rfl),st⟩
  ·obtain ⟨rfl,hq,d,st2⟩:=hh
   replace st:=st.trans st2
   have hq:f.quiet=false:=hq
   refine B3 ?_
   refine xa (Lc (b:=[46,116,109,112]) rfl rfl (by simp)) ?_
   refine xk (iE (k:=Ch) st.here (by show (f.wait++_).length≤_;rw [z2,zm];omega) (Tf f d hE)) rfl ?_
   refine fun v hp1 hh=>hh.elim (fun hh=> ?_) (fun hh=> ?_)
   ·obtain ⟨rfl,st2⟩:=hh
    replace st:=st.trans st2
    refine AH ?_
    refine xk (RD st.here) rfl ?_
    refine fun v hp1 hh=>hh.elim (fun hh=> ?_) (fun hh=> ?_)
    ·obtain ⟨rfl,st2⟩:=hh
     replace st:=st.trans st2
     refine Aj ?_
     exact .inr ⟨hq,_,_,_,rfl,.inr (.inl ⟨d,.inr (.inr rfl)⟩),st⟩
    ·obtain ⟨rfl,_,st2⟩:=hh
     replace st:=st.trans st2
     refine Aj ?_
     exact .inr ⟨hq,_,_,_,rfl,.inr (.inl ⟨d,.inr (.inl rfl)⟩),st⟩
   ·obtain ⟨rfl,_,st2⟩:=hh
    replace st:=st.trans st2
    refine By ?_
    exact .inr ⟨hq,_,_,_,rfl,.inr (.inl ⟨d,.inl rfl⟩),st⟩
 ·obtain ⟨rfl,hq,st2⟩:=hh
  replace st:=st.trans st2
  refine Hp ?_
  exact .inr ⟨hq,_,_,_,rfl,.inl rfl,st⟩
theorem NT:mems []=[]:=by simp [mems,Cf,Fi]
theorem SS:Em []=20:=by unfold Em;rw [JL,NT];rfl
theorem B4.nil:B4 []:=⟨fun e he=>(by cases he),by simp,by rw [SS];simp [AX]⟩
@[reducible] def Dh:Fs:=⟨[],fun _=>none,fun _=>none,[],true⟩
theorem Zn {S cap:Nat} (hS:2*S≤cap) (hcap:cap≤65536):Dh.fit S cap∧(Dh.make Ch).fit S cap:=by
 refine ⟨⟨fun d hd=>(by cases hd),fun i hi=>absurd hi (Nat.not_lt_zero _),fun k i h=>(by cases h),by simp,by simp;omega,hcap⟩,⟨fun d hd=> ?_,fun i hi=>⟨Ch,?_⟩,fun k i h=> ?_,by simp [Fs.make,Fs.doN],by simp [Fs.make,Fs.doN];omega,hcap⟩⟩
 ·simp only [Fs.make,z4,zo]at hd
  subst hd
  simp [Dk.nil]
 ·simp only [Fs.make,z4,zm]at hi
  obtain rfl:i=0:=by omega
  simp [Fs.make,Fs.doN,Br]
 ·simp only [Fs.make,Fs.doN,Br]at h
  split at h
  ·rename_i hh;rw [hh.2];simp
  ·split at h <;> cases h
theorem Yl {B p tp cap S:Nat} {F:List AE} {f:Fs} {h0:AA} (st0:St B h0 h0 (BF p cap f::F)) (ht:CN h0 tp) (hf:f=Dh) (hS:3≤S∧2*S≤cap) (hcap:cap≤65536):
  AG Tryz.prog 40 [AM p,AM tp,AU B7] h0 fun v h'=>v=nV 0∧St B h0 h' (BF p cap (EG f (CE []))::F):=by
 subst hf
 obtain ⟨hf0,hf1⟩:=Zn hS.2 hcap
 have st:=st0
 refine Bg Tryz.func40 rfl fun _=>Hp ?_
 refine xa (GS rfl rfl) ?_
 refine AT (.bool false) (congrArg Value.bool (by decide)) (Cp ?_)
 refine xk (OP (k:=B7) st.here) rfl ?_
 rintro _ _ ⟨rfl,rfl⟩
 refine Bb ?_
 refine xk (R7 (l:=[]) ht (Rd.nil _ _) rfl (by rw [NT];exact Rd.nil _ _) (by rw [NT];rfl) B4.nil) rfl ?_
 rintro _ hp2 ⟨w,rfl,st2⟩
 replace st:=st.join st2
 simp only [z5,z4]at st
 obtain ⟨A5,n5,c5,rfl,hlen5,hnc5,_,_⟩:=st.row 0 rfl
 have hil:=M8 []
 rw [z3,zf]at hlen5
 rw [SS,hlen5]at hil
 have hil:n5=1044:=by rw [hil];simp [AX]
 refine Bu ?_
 refine xk (R8 (S:=S) (F:=row 5 1 (.slice A5 n5 c5) ((CE []).map AN)::F) st.here.sw hf0 hf1 (by simp) rfl rfl (by simp) (fun h' rs s=>s.rdF) hlen5 hnc5 (by rw [hil];unfold Ba;omega) (by omega)) rfl ?_
 rintro _ hp3 hh
 obtain ⟨rfl,st3⟩:_=Al [nV 0,.bool true,nV 0]∧_:=hh.elim id (fun hh=>absurd hh.1 (by simp))
 replace st:=st.trans st3
 refine Bq ?_
 exact ⟨rfl,st.sw.tail⟩
end Go.Bn
end

section
namespace Go.Bn
open Go Proofs
@[reducible] def DC (p tp id en:Nat) (s:AQ) (po:Bool):List Value:=[AM p,AM tp,AU B7,nV id,nV en,.int .i64 s.seq,.int .i64 s.en,.int .i64 s.dir,.bool s.cl,.bool po]
theorem dL {s:AQ} (h:0≤s.seq):(if s.seq%2=1 then (512:Int)else 0)=((pl s*512:Nat):Int):=by
 unfold pl;split <;> omega
theorem WH {ps:Nat} {s:AQ} {h0:AA} (h5:Az h0 ⟨ps,5,none⟩=some (.int .i64 s.seq)) (h8:Az h0 ⟨ps,8,none⟩=some (.bool s.cl)) (hs:s.seq≤100000):AG Tryz.prog 116 [AM ps] h0 fun v h'=>v= .bool true∧h0=h':=by
 refine BE Tryz.func116 rfl fun _=>Bu ?_
 refine xl (h8) rfl (AC ?_)
 refine C6 rfl (fun h=> ?_) (fun h=> ?_)
 ·refine AL ?_
  refine xl (h5) rfl (AC ?_)
  refine AT (.bool true) (congrArg Value.bool (decide_eq_true (by omega))) (AF ?_)
  exact ⟨rfl,rfl⟩
 ·refine AO ?_
  refine xl (h5) rfl (AC ?_)
  refine AT (.bool true) (congrArg Value.bool (decide_eq_true (by omega))) (AF ?_)
  exact ⟨rfl,rfl⟩
theorem WJ {B ps p tp cap S id en:Nat} {s n:AQ} {po:Bool} {d:Dk} {f:Fs} {F:List AE} {h0:AA} (st0:St B h0 h0 (pt ps 100 (DC p tp id en s po)::BF p cap f::F)) (ht:∀h' rs,St B h0 h' (rs++F)→CN h' tp) (hfit:f.fit S cap) (hd:f.dk[id]? =some d) (hn:n.right) (hS:2≤S):
  AG Tryz.prog 118 [AM ps,.agg (BA n).toArray] h0 fun v h'=>(v=nV 0∧St B h0 h' (pt ps 100 (DC p tp id en n po)::BF p cap (f.setD id (d.write (pl n*512) n.bytes).sync)::F))∨(v=nV 10∧f.quiet=false∧∃d',(d'=d∨d'=d.write (pl n*512) n.bytes)∧St B h0 h' (pt ps 100 (DC p tp id en s po)::BF p cap (f.setD id d')::F)):=by
 have st:=st0
 have hpl:=GW n
 have hnb:=n.bytes_length
 refine Ac Tryz.func118 rfl fun _=>AB ?_
 refine xb (us:=BA n) st fun p3 hp st=>AO ?_
 refine xc st 1 1 ?_
 refine xa (Ai (vs:=BA n) (st.cells 0 rfl) rfl rfl rfl rfl) ?_
 refine xk (WM (ht _ [_,_,_] st) hn) rfl ?_
 rintro _ hp2 ⟨w,rfl,st2⟩
 replace st:=st.join st2
 simp only [z5,z4]at st
 obtain ⟨A5,n5,c5,rfl,hlen5,hnc5,_,_⟩:=st.row 0 rfl
 rw [z3,hnb,zf]at hlen5
 subst hlen5
 refine AO ?_
 refine GK ((Ck [(10,.grow)])) [0,1,2,3,4,5,6,7,8,9,11,10,12,13] (by kernel_rfl) (by kernel_rfl) rfl (AF ?_)
 refine xc st 2 0 ?_
 refine AF ?_
 refine xc st 2 3 ?_
 refine AC ?_
 refine xc st 1 0 ?_
 refine AC ?_
 refine BW (CT (e6 (by simp only [AI];have:=hn;unfold AQ.right at this;omega) _) rfl (by kernel_rfl)) rfl rfl rfl (fun _ _ h=>h.2▸BC.refl _ _) ?_
 rintro _ _ ⟨rfl,rfl⟩
 rw [dL hn.1]
 refine xk (MQ (S:=S) (F:=row 5 1 (.slice A5 512 c5) (n.bytes.map AN)::pt p3 80 (BA n)::pt ps 100 (DC p tp id en s po)::F) (st.here.sel 4 [3,0,1,2]) hfit hd (fun h' rs s=>s.rdF) hnb hnc5 (by unfold Ba;omega) (by omega)) rfl ?_
 refine fun v hp1 hh=>hh.elim (fun hh=> ?_) (fun hh=> ?_)
 ·obtain ⟨rfl,st2⟩:=hh
  replace st:=st.trans st2
  refine B3 ?_
  refine xc st 3 0 ?_
  refine AF ?_
  refine xc st 3 3 ?_
  refine xk (OQ (S:=S) st.here (Fs.setD_get hd)) rfl ?_
  refine fun v hp1 hh=>hh.elim (fun hh=> ?_) (fun hh=> ?_)
  ·obtain ⟨rfl,st2⟩:=hh
   replace st:=st.trans st2
   rw [Fs.setD_setD]at st
   refine Bu ?_
   refine xa (Ai (vs:=BA n) (st.cells 2 rfl) rfl rfl rfl rfl) (AB ?_)
   refine BT (Nq (us:=BA n) st 3 (o:=5) rfl rfl rfl rfl rfl (DB n) (Nat.le_of_ble_eq_true rfl)) rfl rfl fun _ hp st=> ?_
   simp only [z0,z1]at st
   refine AO ?_
   exact .inl ⟨rfl,st.sel 4 [3,0]⟩
  ·obtain ⟨rfl,hq,st2⟩:=hh
   replace st:=st.trans st2
   refine Bb ?_
   exact .inr ⟨rfl,hq,_,.inr rfl,st.sel 4 [3,0]⟩
 ·obtain ⟨rfl,hq,st2⟩:=hh
  replace st:=st.trans st2
  refine XM ?_
  exact .inr ⟨rfl,hq,_,.inl rfl,by rw [Fs.setD_same hd];exact st.sel 4 [3,0]⟩
end Go.Bn
end

section
namespace Go.Bn
open Go Proofs
theorem Dk.write_wait (d:Dk) (i:Nat) (c:List UInt8):(d.write i c).wait.length≤d.wait.length+Ba (i+c.length):=by
 unfold Dk.write
 split
 ·omega
 ·simp only [Dk.grow,OJ,z2,z3,List.length_range'];omega
theorem Dk.write_le {d:Dk} (h:d.ok) (i:Nat) (c:List UInt8) {S:Nat} (h1:d.safe.length≤S) (h2:Ba (i+c.length)≤S):(d.write i c).safe.length≤S:=by
 rcases Decidable.em (c=[])with e | e
 ·unfold Dk.write;rw [if_pos e];exact h1
 ·rw [Dk.write_size h i e];omega
theorem Dk.sync_len (d:Dk):d.sync.safe.length=d.safe.length∧d.sync.wait=[]:=by simp [Dk.sync]
theorem Fs.fit.setD {f:Fs} {S cap i:Nat} {d:Dk} (h:f.fit S cap) (h1:d.safe.length≤S) (h2:d.wait.length≤1073741824):(f.setD i d).fit S cap:=by
 refine ⟨fun x hx=> ?_,fun k hk=> ?_,h.now,h.wait,?_,h.cap⟩
 ·rcases List.mem_or_eq_of_mem_set hx with hx | rfl
  ·exact h.dk x hx
  ·exact ⟨h1,h2⟩
 ·simp only [Fs.setD,List.length_set]at hk;exact h.link k hk
 ·simp only [Fs.setD,List.length_set];exact h.room
structure SI (f:Fs) (S cap id w:Nat) (so s:AQ) (l0 l:List AS):Prop where
  set:G8 f id so s l0 l
  fit:f.fit S cap
  wl:∀d,f.dk[id]? =some d→d.wait.length≤w
  w:w≤1000000
  S:2≤S∧S≤1000
theorem SI.dk {f:Fs} {S cap id w:Nat} {so s:AQ} {l0 l:List AS} (h:SI f S cap id w so s l0 l):∃d,f.dk[id]? =some d∧DI d so s l0 l∧d.safe.length≤S∧d.wait.length≤w:=by
 obtain ⟨d,h1,h2⟩:=h.set.dk
 exact ⟨d,h1,h2,(h.fit.dk d (List.mem_of_getElem? h1)).1,h.wl d h1⟩
theorem SI.setD {f:Fs} {S cap id w w':Nat} {so s so' s':AQ} {l0 l l0' l':List AS} (h:SI f S cap id w so s l0 l) {d:Dk} (hd:DI d so' s' l0' l') (h1:d.safe.length≤S) (h2:d.wait.length≤w') (hw:w'≤1000000):SI (f.setD id d) S cap id w' so' s' l0' l':=by
 obtain ⟨d0,h3,_⟩:=h.dk
 refine ⟨h.set.put hd,h.fit.setD h1 (by omega),fun x hx=> ?_,hw,h.S⟩
 rw [Fs.setD_get h3]at hx;cases hx;exact h2
theorem ZJ {s:AQ} (h:s.right) (hs:s.seq≤100000):Ey s ⟨0,s.en,0,false⟩=(⟨s.seq+1,s.en,0,false⟩,true)∧(AQ.mk (s.seq+1) s.en 0 false).right:=by
 have h':=h
 unfold AQ.right at h'
 have hr:(AQ.mk (s.seq+1) s.en 0 false).right:=⟨by simp only;omega,by simp only;omega,h'.2.2.1,h'.2.2.2.1,rfl⟩
 exact ⟨by unfold Ey;rw [if_pos ⟨h,by omega,hr⟩],hr⟩
theorem Yh {s:AQ} {e k:Int} (h:s.right) (hs:s.seq≤100000) (he:1024≤e∧e+k≤2097152) (hk:20≤k∧k≤16420):Ey s ⟨0,e,k,true⟩=(⟨s.seq+1,e,k,true⟩,true)∧(AQ.mk (s.seq+1) e k true).right:=by
 have h':=h
 unfold AQ.right at h'
 have hr:(AQ.mk (s.seq+1) e k true).right:=⟨by simp only;omega,by simp only;omega,he.1,by simp only;omega,by rw [if_pos rfl];exact ⟨hk.1,hk.2,he.2⟩⟩
 exact ⟨by unfold Ey;rw [if_pos ⟨h,by omega,hr⟩],hr⟩
theorem WG {B ps p tp cap S id en w m c dir:Nat} {A:Option Addr} {b:List UInt8} {so s:AQ} {l0 l:List AS} {f:Fs} {F:List AE} {h0:AA} (st0:St B h0 h0 (pt ps 100 (DC p tp id en s false)::BF p cap f::F)) (hI:SI f S cap id w so s l0 l) (hen:1024+(AX l).length=en) (hs:s.seq<100000) (hw:w+S≤1000000)
  (ht:∀h' rs,St B h0 h' (rs++F)→CN h' tp) (hr:∀h' rs,St B h0 h' (rs++F)→Rd h' A (b.map AN)) (hl:b.length=m) (hmc:m≤c) (hfit:en+m+dir≤2097152) (hS:Ba (en+m)≤S):
  AG Tryz.prog 65 [AM ps,nV 0,.slice A m c,nV dir] h0 fun v h'=>(v=nV 0∧∃so' s' f1 d1,SI f1 S cap id (w+S) so' s' l0 l∧s'.cl=false∧s'.seq≤s.seq+1∧f1.quiet=f.quiet∧f1.dk[id]? =some d1∧DI d1 so' s' l0 l∧St B h0 h' (pt ps 100 (DC p tp id en s' false)::BF p cap (f1.setD id (d1.write en b))::F))∨
   (v=nV 10∧f.quiet=false∧∃f' s',DV f' [l0]∧St B h0 h' (pt ps 100 (DC p tp id en s' false)::BF p cap f'::F)):=by
 have st:=st0
 obtain ⟨d,hd,hDI,hdS,hdw⟩:=hI.dk
 have hrt:=hDI.rt
 obtain ⟨hdn,hdr⟩:=ZJ hrt.2.1 (by omega)
 refine Gx Tryz.func65 rfl fun _=>FX ?_
 refine xc st 0 9 ?_
 refine FX ?_
 refine xc st 0 4 ?_
 refine AH ?_
 refine xk (QH (e:=en+0) (m:=m) (d:=dir) (by omega) _) rfl ?_
 rintro _ _ ⟨rfl,rfl⟩
 refine AJ ?_
 refine xk (WH (st.cell 0 (i:=5) rfl rfl) (st.cell 0 (i:=8) rfl rfl) (by omega)) rfl ?_
 rintro _ _ ⟨rfl,rfl⟩
 refine Bq ?_
 refine xc st 0 8 ?_
 refine AC ?_
 refine C6 rfl (fun h=> ?_) (fun h=> ?_)
 ·refine AH ?_
  refine xa (Ai (vs:=BA s) (st.part 0 5 [AM p,AM tp,AU B7,nV id,nV en] (BA s) [.bool false] rfl rfl) rfl rfl rfl rfl) ?_
  refine xk (eU s _) rfl ?_
  rintro _ hp3 ⟨rfl,hx3⟩
  replace st:=st.ext hx3
  rw [hdn]
  refine AF ?_
  refine xn st fun p9 hp st=> ?_
  refine xw (us:=BA ⟨s.seq+1,s.en,0,false⟩) st 0 (DB _) fun hp st=> ?_
  simp only [z0]at st
  refine AH ?_
  refine xa (Ai (vs:=BA ⟨s.seq+1,s.en,0,false⟩) (st.cells 0 rfl) rfl rfl rfl rfl) ?_
  refine xk (WJ (S:=S) (F:=pt p9 80 (BA ⟨s.seq+1,s.en,0,false⟩)::F) (st.here.sel 3 [1,2,0]) (fun h' rs s=>ht h' (rs++[_]) (by rw [z8];exact st.trans s)) hI.fit hd hdr hI.S.1) rfl ?_
  refine fun v hp1 hh=>hh.elim (fun hh=> ?_) (fun hh=> ?_)
  ·obtain ⟨rfl,st2⟩:=hh
   replace st:=(st.trans st2).sel 3 [0,1]
   simp only [BU,BV,An]at st
   have hDI1:=hDI.put_di (l1:=l0) hdr rfl hDI.en hDI.pre (fun e=>nomatch e)
   have hpl:=GW ⟨s.seq+1,s.en,0,false⟩
   have hsl:=Dk.sync_len (d.write (pl ⟨s.seq+1,s.en,0,false⟩*512) (AQ.mk (s.seq+1) s.en 0 false).bytes)
   have hSI1:=hI.setD (w':=w+S) hDI1 (by rw [hsl.1];exact Dk.write_le hDI.ok _ _ hdS (by rw [AQ.bytes_length];have:=hI.S.1;unfold Ba;omega)) (by rw [hsl.2];simp) hw
   obtain ⟨f1,s1,so1,d1,hSI1,hd1,hDI1,hcl,hsq,hq1,st⟩:∃f1 s1 so1 d1,SI f1 S cap id (w+S) so1 s1 l0 l∧f1.dk[id]? =some d1∧DI d1 so1 s1 l0 l∧s1.cl=false∧s1.seq≤s.seq+1∧f1.quiet=f.quiet∧St B h0 hp1 (pt ps 100 (DC p tp id en s1 false)::BF p cap f1::F):=⟨_,_,_,_,hSI1,Fs.setD_get hd,hDI1,rfl,Int.le_refl _,rfl,st⟩
   refine Bq ?_
   refine xc st 0 0 ?_
   refine AF ?_
   refine xc st 0 3 ?_
   refine AF ?_
   refine xc st 0 4 ?_
   refine AF ?_
   refine xk (MQ (S:=S) (F:=pt ps 100 (DC p tp id en s1 false)::F) (a:=en+0) st.here.sw hSI1.fit hd1 (fun h' rs s=>hr h' (rs++[_]) (by rw [z8];exact st.trans s)) hl hmc (by rw [Nat.add_zero];exact hS) (by omega)) rfl ?_
   refine fun v hp2 hh=>hh.elim (fun hh=> ?_) (fun hh=> ?_)
   ·obtain ⟨rfl,st2⟩:=hh
    replace st:=(st.trans st2).sw
    rw [Nat.add_zero]at st
    refine AF ?_
    exact .inl ⟨rfl,so1,s1,f1,d1,hSI1,hcl,hsq,hq1,hd1,hDI1,st⟩
   ·obtain ⟨rfl,hq,st2⟩:=hh
    replace st:=(st.trans st2).sw
    refine AF ?_
    exact .inr ⟨rfl,hq1▸hq,f1,s1,hSI1.set.good,st⟩
  ·obtain ⟨rfl,hq,d',hd',st2⟩:=hh
   replace st:=(st.trans st2).sel 3 [0,1]
   have hmay:GI d' [l0]:=by
    rcases hd' with rfl | rfl
    ·exact hDI.may
    ·exact (hDI.put_may (l1:=l0) hdr rfl hDI.en hDI.log (NY hDI) (fun e=>nomatch e)).mono (by simp)
   refine Bq ?_
   exact .inr ⟨rfl,hq,_,_,hI.set.may hmay,st⟩
 ·have hp1':=st.low
  obtain ⟨f1,s1,so1,d1,hSI1,hd1,hDI1,hcl,hsq,hq1,st⟩:∃f1 s1 so1 d1,SI f1 S cap id (w+S) so1 s1 l0 l∧f1.dk[id]? =some d1∧DI d1 so1 s1 l0 l∧s1.cl=false∧s1.seq≤s.seq+1∧f1.quiet=f.quiet∧St B h0 _ (pt ps 100 (DC p tp id en s1 false)::BF p cap f1::F):=⟨f,s,so,d,⟨hI.set,hI.fit,fun x hx=>zw (hI.wl x hx) (Nat.le_add_right _ _),hw,hI.S⟩,hd,hDI,by simpa using h,by omega,rfl,st⟩
  refine AL ?_
  refine xc st 0 0 ?_
  refine AF ?_
  refine xc st 0 3 ?_
  refine AF ?_
  refine xc st 0 4 ?_
  refine AF ?_
  refine xk (MQ (S:=S) (F:=pt ps 100 (DC p tp id en s1 false)::F) (a:=en+0) st.here.sw hSI1.fit hd1 (fun h' rs s=>hr h' (rs++[_]) (by rw [z8];exact st.trans s)) hl hmc (by rw [Nat.add_zero];exact hS) (by omega)) rfl ?_
  refine fun v hp2 hh=>hh.elim (fun hh=> ?_) (fun hh=> ?_)
  ·obtain ⟨rfl,st2⟩:=hh
   replace st:=(st.trans st2).sw
   rw [Nat.add_zero]at st
   refine AF ?_
   exact .inl ⟨rfl,so1,s1,f1,d1,hSI1,hcl,hsq,hq1,hd1,hDI1,st⟩
  ·obtain ⟨rfl,hq,st2⟩:=hh
   replace st:=(st.trans st2).sw
   refine AF ?_
   exact .inr ⟨rfl,hq1▸hq,f1,s1,hSI1.set.good,st⟩
end Go.Bn
end

section
namespace Go.Bn
open Go Proofs
theorem el {B ps p tp id en n:Nat} {s:AQ} {F:List AE} {h0:AA} (st0:St B h0 h0 (pt ps 100 (DC p tp id en s false)::F)) (hc:s.cl=false) (hn:en+n≤2097152):
  AG Tryz.prog 71 [AM ps,nV n] h0 fun v h'=>v= .bool true∧St B h0 h' (pt ps 100 (DC p tp id (en+n) s false)::F):=by
 have st:=st0
 have h8:(DC p tp id en s false)[8]? =some (.bool false):=by show some (Value.bool s.cl)=_;rw [hc]
 refine Ac Tryz.func71 rfl fun _=>B3 ?_
 refine xc st 0 9 ?_
 refine AL ?_
 refine xl (st.cell 0 (i:=8) rfl h8) rfl (AJ ?_)
 refine AT (.bool false) (congrArg Value.bool (zu (by omega))) (AL ?_)
 refine xc st 0 4 ?_
 refine xa (Bk (m:=2097152) rfl rfl (by omega) (by simp only [AI];omega)) (AC ?_)
 refine AT (.bool false) (congrArg Value.bool (zu (by omega))) (Aj ?_)
 refine xc st 0 4 ?_
 refine AJ ?_
 refine xj st 0 fun hp st=> ?_
 simp only [z0,z1]at st
 refine AL ?_
 exact ⟨rfl,st⟩
theorem ek {ps en:Nat} {h0:AA} (h4:Az h0 ⟨ps,4,none⟩=some (nV en)):AG Tryz.prog 58 [AM ps] h0 fun v h'=>v=nV en∧h0=h':=by
 refine BE Tryz.func58 rfl fun _=>EY ?_
 refine xl (h4) rfl (AF ?_)
 exact ⟨rfl,rfl⟩
theorem WI {ps:Nat} {b:Bool} {h0:AA} (h9:Az h0 ⟨ps,9,none⟩=some (.bool b)):AG Tryz.prog 21 [AM ps] h0 fun v h'=>v= .bool b∧h0=h':=by
 refine BE Tryz.func21 rfl fun _=>By ?_
 refine xl (h9) rfl (AJ ?_)
 exact ⟨rfl,rfl⟩
theorem ep {B ps p tp cap id en a m:Nat} {s:AQ} {po:Bool} {d:Dk} {f:Fs} {F:List AE} {h0:AA} (st0:St B h0 h0 (pt ps 100 (DC p tp id en s po)::BF p cap f::F)) (hd:f.dk[id]? =some d) (ha:a+m≤d.now.length):
  AG Tryz.prog 99 [AM ps,nV a,nV m] h0 fun v h'=>∃w,v=Al [w,nV 0]∧St h0.size h0 h' [row 5 1 w (((d.now.drop a).take m).map AN)]:=by
 refine Bg Tryz.func99 rfl fun _=>FX ?_
 refine xc st0 0 0 ?_
 refine AF ?_
 refine xc st0 0 3 ?_
 refine AB ?_
 refine xk (RC st0.sw hd ha) rfl ?_
 rintro _ hp2 ⟨w,rfl,st2⟩
 refine AL ?_
 exact ⟨w,rfl,st2⟩
theorem ej {B ps p tp cap S id en w n c:Nat} {A:Option Addr} {so s:AQ} {l0 l:List AS} {f:Fs} {F:List AE} {h0:AA} (st0:St B h0 h0 (pt ps 100 (DC p tp id en s false)::BF p cap f::F)) (hI:SI f S cap id w so s l0 l) (hen:1024+(AX l).length=en) (hs:s.seq<99999) (hw:w+S≤1000000)
  (ht:∀h' rs,St B h0 h' (rs++F)→CN h' tp) (hr:∀h' rs,St B h0 h' (rs++F)→Rd h' A (Bf (mems l))) (hl:(mems l).length=n) (hL:B4 l) (hS:Ba (en+Em l)≤S):
  AG Tryz.prog 75 [AM ps,.slice A n c] h0 fun v h'=>(v=nV 0∧∃so' s' f',SI f' S cap id (w+S) so' s' l l∧s'.seq≤s.seq+1∧f'.quiet=f.quiet∧St B h0 h' (pt ps 100 (DC p tp id en s' false)::BF p cap f'::F))∨
   (v=nV 10∧f.quiet=false∧∃f' s' po,DV f' [l0,l]∧St B h0 h' (pt ps 100 (DC p tp id en s' po)::BF p cap f'::F)):=by
 have st:=st0
 obtain ⟨d,hd,hDI,hdS,hdw⟩:=hI.dk
 have hrt:=hDI.rt
 obtain ⟨hM,hMl⟩:=hL.mems
 obtain ⟨hdn1,hdn2,_⟩:=Mt hL
 have hff:=hL.fit
 obtain ⟨dn,hdn⟩:∃dn,Em l=dn:=⟨_,rfl⟩
 rw [hdn]at hdn1 hdn2 hff hS
 obtain ⟨hcn,hcr⟩:=Yh (e:=(en:Nat)) (k:=(dn:Nat)) hrt.2.1 (by omega) ⟨by omega,by omega⟩ ⟨by omega,by omega⟩
 refine Ac Tryz.func75 rfl fun _=>FX ?_
 refine xc st 0 9 ?_
 refine AL ?_
 refine xk (Mx (hr _ [_,_] st) hl hM) rfl ?_
 rintro _ hp1 ⟨rfl,hx1⟩
 replace st:=st.ext hx1
 refine BP ?_
 refine xc st 0 8 ?_
 refine AB ?_
 refine C6 rfl (fun h=> ?_) (fun h=> ?_)
 ·refine AH ?_
  have hl0:=(hDI.dir h).1
  exact .inl ⟨rfl,so,s,f,⟨hl0▸hI.set,hI.fit,fun x hx=>zw (hI.wl x hx) (Nat.le_add_right _ _),hw,hI.S⟩,by omega,rfl,st⟩
 ·have hcl:s.cl=false:=by simpa using h
  refine AO ?_
  refine xc st 0 1 ?_
  refine AC ?_
  refine xk (Uu (ht _ [_,_] st) (hr _ [_,_] st) hl hM) rfl ?_
  rintro _ hp2 ⟨w1,rfl,st2⟩
  replace st:=st.join st2
  simp only [z5,z4]at st
  obtain ⟨A5,n5,c5,rfl,hlen5,hnc5,_,_⟩:=st.row 0 rfl
  rw [z3,zf]at hlen5
  obtain rfl:dn=n5:=by rw [←hdn];exact hlen5
  refine BP ?_
  refine xk (WH (st.cell 1 (i:=5) rfl rfl) (st.cell 1 (i:=8) rfl rfl) (by omega)) rfl ?_
  rintro _ _ ⟨rfl,rfl⟩
  refine AH ?_
  refine xc st 1 4 ?_
  refine AB ?_
  refine xk (QH (e:=en) (m:=0) (d:=dn) (by omega) _) rfl ?_
  rintro _ _ ⟨rfl,rfl⟩
  refine BP ?_
  refine xc st 1 0 ?_
  refine AF ?_
  refine xc st 1 3 ?_
  refine AF ?_
  refine xc st 1 4 ?_
  refine AC ?_
  have hDI1:=hDI.write hcl en (CV (mems l)) (by omega)
  have hat:=Mg hDI.ok en (CV (mems l))
  have hd1S:=Dk.write_le hDI.ok en (CV (mems l)) hdS (by rw [hlen5];exact hS)
  obtain ⟨d1,hd1⟩:∃d1,d.write en (CV (mems l))=d1:=⟨_,rfl⟩
  rw [hd1]at hDI1 hat hd1S
  refine xk (MQ (S:=S) (F:=row 5 1 (.slice A5 dn c5) ((CV (mems l)).map AN)::pt ps 100 (DC p tp id en s false)::F) (st.here.sel 3 [2,0,1]) hI.fit hd (fun h' rs s=>s.rdF) hlen5 hnc5 hS (by omega)) rfl ?_
  refine fun v hp1 hh=>hh.elim (fun hh=> ?_) (fun hh=> ?_)
  ·obtain ⟨rfl,st2⟩:=hh
   rw [hd1]at st2
   replace st:=(st.trans st2).sel 3 [2,0]
   simp only [BU,BV,An]at st
   refine B3 ?_
   refine xc st 0 0 ?_
   refine AF ?_
   refine xc st 0 3 ?_
   have hDI2:=hDI1.sync
   have hsl:=Dk.sync_len d1
   have hHas:Da d1.sync 1024 (AX l):=Da.sync hDI1.ok hDI1.now hDI1.fits
   have hfl:en+(CV (mems l)).length≤d1.now.length:=by
    rcases hat.fits with e | e
    ·rw [e]at hlen5;simp at hlen5;omega
    ·exact e
   have hHas2:Da d1.sync en (CV (mems l)):=Da.sync hDI1.ok hat hfl
   have hat2:At d1.sync.now en (CV (mems l)):=hat
   have hfl2:en+(CV (mems l)).length≤d1.sync.now.length:=hfl
   obtain ⟨d2,hd2⟩:∃d2,d1.sync=d2:=⟨_,rfl⟩
   rw [hd2]at hDI2 hHas hHas2 hat2 hfl2 hsl
   refine xk (OQ (S:=S) st.here.sw (Fs.setD_get hd)) rfl ?_
   refine fun v hp1 hh=>hh.elim (fun hh=> ?_) (fun hh=> ?_)
   ·obtain ⟨rfl,st2⟩:=hh
    replace st:=(st.trans st2).sw
    rw [Fs.setD_setD,hd2]at st
    refine BP ?_
    refine HV (Ck [(10,.grow),(14,.grow)]) [0,1,2,3,4,5,6,7,8,9] 10 [11,12,13,14,15,16] 14 [10,11,12,13,15,16] (by kernel_rfl) (by kernel_rfl) rfl rfl rfl (AF ?_)
    refine xa (Ai (vs:=BA s) (st.part 0 5 [AM p,AM tp,AU B7,nV id,nV en] (BA s) [.bool false] rfl rfl) rfl rfl rfl rfl) (AF ?_)
    refine xc st 0 4 ?_
    refine AF ?_
    have hSI2:=hI.setD (w':=w+S) hDI2 (by rw [hsl.1];exact hd1S) (by rw [hsl.2];simp) hw
    obtain ⟨n',hn'⟩:∃n',AQ.mk (s.seq+1) (en:Nat) (dn:Nat) true=n':=⟨_,rfl⟩
    have hq1:n'.seq=s.seq+1:=by rw [←hn']
    have hq2:n'.en=(1024+(AX l).length:Nat):=by rw [←hn',hen]
    have hq3:n'.dir=((CV (mems l)).length:Nat):=by rw [←hn',hlen5]
    rw [hn']at hcn hcr
    refine HT (σ:=Nat) (fun q=>[(0,AM ps),(8,AM q)]) (fun q hp=>St B h0 hp (pt q 80 (BA n')::pt ps 100 (DC p tp id en s false)::BF p cap (f.setD id d2)::F)) ?_ ?_ ?_
    ·refine BW (CT (Vy s (en:Nat) (dn:Nat) _) rfl (by kernel_rfl)) rfl rfl rfl (fun _ _ h=>h.2) ?_
     rintro _ hp3 ⟨rfl,hx3⟩
     replace st:=st.ext hx3
     rw [hcn]
     refine AF ?_
     refine BW (CK rfl) rfl rfl rfl (fun _ _ ⟨_,_,h⟩=>h.1) ?_
     rintro _ hp ⟨p8,rfl,hnew⟩
     replace st:=st.new hnew
     refine xw (us:=BA n') st 0 (DB _) fun hp st=> ?_
     simp only [z0]at st
     refine AB ?_
     exact C7 p8 (Cu rfl rfl) st
    ·refine BW (CK rfl) rfl rfl rfl (fun _ _ ⟨_,_,h⟩=>h.1) ?_
     rintro _ hp ⟨p8,rfl,hnew⟩
     replace st:=st.new hnew
     refine BW (CT (Vy s (en:Nat) (dn:Nat) _) rfl (by kernel_rfl)) rfl rfl rfl (fun _ _ h=>h.2) ?_
     rintro _ hp3 ⟨rfl,hx3⟩
     replace st:=st.ext hx3
     rw [hcn]
     refine AF ?_
     refine xw (us:=BA n') st 0 (DB _) fun hp st=> ?_
     simp only [z0]at st
     refine AB ?_
     exact C7 p8 (Cu rfl rfl) st
    rintro p8 hp st
    refine AB ?_
    refine xa (Ai (vs:=BA n') (st.cells 0 rfl) rfl rfl rfl rfl) ?_
    refine xk (WJ (S:=S) (F:=pt p8 80 (BA n')::F) (st.here.sel 3 [1,2,0]) (fun h' rs s=>ht h' (rs++[_]) (by rw [z8];exact st.trans s)) hSI2.fit (Fs.setD_get hd) hcr hI.S.1) rfl ?_
    refine fun v hp1 hh=>hh.elim (fun hh=> ?_) (fun hh=> ?_)
    ·obtain ⟨rfl,st2⟩:=hh
     replace st:=(st.trans st2).sel 3 [0,1]
     simp only [BU,BV,An]at st
     rw [Fs.setD_setD]at st
     refine Aj ?_
     refine xj st 0 fun hp st=> ?_
     simp only [z0,z1]at st
     refine AO ?_
     have hDI3:=hDI2.put_di (l1:=l) hcr hq1 hq2 (List.prefix_refl _) (fun _=>⟨rfl,hq3,by rw [hen];exact hfl2,by rw [hen];exact hat2⟩)
     have hs3:=Dk.sync_len (d2.write (pl n'*512) n'.bytes)
     have hpl:=GW n'
     exact .inl ⟨rfl,_,n',_,hI.setD (w':=w+S) hDI3 (by rw [hs3.1];exact Dk.write_le hDI2.ok _ _ (by rw [hsl.1];exact hd1S) (by rw [AQ.bytes_length];have:=hI.S.1;unfold Ba;omega)) (by rw [hs3.2];simp) hw,by omega,rfl,st⟩
    ·obtain ⟨rfl,hq,d',hd',st2⟩:=hh
     replace st:=(st.trans st2).sel 3 [0,1]
     simp only [BU,BV,An]at st
     rw [Fs.setD_setD]at st
     refine Aj ?_
     refine xj st 0 fun hp st=> ?_
     simp only [z0,z1]at st
     refine AO ?_
     refine .inr ⟨rfl,hq,_,s,true,hI.set.may (L:=[l0,l]) ?_,st⟩
     rcases hd' with rfl | rfl
     ·exact hDI2.may.mono (by simp)
     ·exact hDI2.put_may (l1:=l) hcr hq1 hq2 hHas hDI2.now (fun _=>⟨hq3,by rw [hen];exact hHas2,by rw [hen];exact hat2⟩)
   ·obtain ⟨rfl,hq,st2⟩:=hh
    replace st:=(st.trans st2).sw
    refine EY ?_
    refine xj st 0 fun hp st=> ?_
    simp only [z0,z1]at st
    refine AO ?_
    exact .inr ⟨rfl,hq,_,s,true,hI.set.may (hDI1.may.mono (by simp)),st⟩
  ·obtain ⟨rfl,hq,st2⟩:=hh
   replace st:=(st.trans st2).sel 3 [2,0]
   simp only [BU,BV,An]at st
   refine IV ?_
   refine xj st 0 fun hp st=> ?_
   simp only [z0,z1]at st
   refine AO ?_
   exact .inr ⟨rfl,hq,_,s,true,hI.set.good.mono (by simp),st⟩
end Go.Bn
end

section
namespace Go.Bn
open Go Proofs
theorem G8.nowA {f:Fs} {i:Nat} {so s:AQ} {l0 l:List AS} (h:G8 f i so s l0 l):f.now B7=some i∧f.now Ch=none∧f.now []=none:=by rw [h.now];simp
theorem NG {f:Fs} {d:Dk} {i:Nat} {e:Dk} (h:f.dk[i]? =some e):(Hf f d).dk[i]? =some e:=by
 have hi:=(zc.1 h).1
 simp only [Hf,Fs.setD,Fs.make,Fs.doN]
 rw [List.getElem?_set_ne (by omega),zi hi];exact h
theorem Te (f:Fs) (d:Dk):(Hf f d).dk[f.dk.length]? =some d:=Fs.setD_get (Pc f)
theorem Tg {f:Fs} {img:List UInt8} (hE:f.now []=none):(EG f img).now B7=some f.dk.length∧(EG f img).now Ch=none∧(EG f img).dk[f.dk.length]? =some (Dk.nil.write 0 img).sync:=by
 refine ⟨?_,?_,Te f _⟩
 ·show Br (Br f.now ⟨[],Ch,f.dk.length⟩) Id B7=_
  simp [Br,hE]
 ·show Br (Br f.now ⟨[],Ch,f.dk.length⟩) Id Ch=_
  simp [Br]
theorem aT {f:Fs} {img:List UInt8} {L:List (List AS)} (hE:f.now []=none) (hm:GI (Dk.nil.write 0 img).sync L):DV (EG f img) L:=fun n=>by
 obtain ⟨h1,_,h2⟩:=Tg (img:=img) hE
 exact ⟨_,_,by show ((List.take n ([]:List C5)).foldl Br (EG f img).now) B7=_;rw [List.take_nil];exact h1,h2,hm⟩
theorem aR {f f':Fs} {i:Nat} {so s:AQ} {l0 l l1:List AS} {img:List UInt8} (h:G8 f i so s l0 l) (hF:RJ f img f') (hm:GI (Dk.nil.write 0 img).sync [l1]):DV f' [l0,l1]:=by
 obtain ⟨d0,hd0,hD⟩:=h.dk
 have hmay:=hD.may.mono (L':=[l0,l1]) (by simp)
 have hs:f.safe=fun k=>if k=B7 then some i else none:=by rw [h.safe,h.now]
 rcases hF with rfl | ⟨d,rfl | rfl | rfl⟩ | rfl
 ·exact h.good.mono (by simp)
 ·exact PH (i:=i) (j:=f.dk.length) hs ⟨d0,NG hd0,hmay⟩ (.inr (.inl (by show f.wait++_=_;rw [h.wait];rfl)))
 ·exact PH (i:=i) (j:=f.dk.length) hs ⟨d0,NG hd0,hmay⟩ (.inr (.inr (.inl (by show (f.wait++_)++_=_;rw [h.wait];rfl))))
 ·intro n
  refine ⟨i,d0,?_,NG hd0,hmay⟩
  show ((List.take n ([]:List C5)).foldl Br (Br (Br f.now ⟨[],Ch,f.dk.length⟩) Mm)) B7=_
  rw [List.take_nil]
  simp [Br,h.now]
 ·exact PH (i:=i) (j:=f.dk.length) hs ⟨d0,NG hd0,hmay⟩ (.inr (.inr (.inr ⟨by show (f.wait++_)++_=_;rw [h.wait];rfl,_,Te f _,hm.mono (by simp)⟩)))
theorem bC {f:Fs} {S cap:Nat} (h:f.fit S cap) (hT:f.now Ch=none) (hE:f.now []=none) (hroom:(f.dk.length+2)*S≤cap) (hw:f.wait.length≤1000):(f.make Ch).fit S cap:=by
 refine ⟨fun d hd=> ?_,fun i hi=> ?_,fun k i hk=> ?_,?_,?_,h.cap⟩
 ·simp only [Fs.make]at hd
  rcases List.mem_append.1 hd with hd | hd
  ·exact h.dk d hd
  ·rw [zo.1 hd];simp [Dk.nil]
 ·simp only [Fs.make,z2,zm]at hi
  rcases Nat.lt_or_ge i f.dk.length with h1 | h1
  ·obtain ⟨k,hk⟩:=h.link i h1
   refine ⟨k,?_⟩
   show Br f.now ⟨[],Ch,f.dk.length⟩ k=_
   unfold Br
   rw [if_neg (by rintro ⟨_,rfl⟩;rw [hT]at hk;cases hk),if_neg (by rintro rfl;rw [hE]at hk;cases hk)];exact hk
  ·obtain rfl:i=f.dk.length:=by omega
   exact ⟨Ch,by show Br f.now ⟨[],Ch,f.dk.length⟩ Ch=_;simp [Br,hE]⟩
 ·have hk:Br f.now ⟨[],Ch,f.dk.length⟩ k=some i:=hk
  unfold Br at hk
  split at hk
  ·rename_i h1;rw [h1.2];simp
  ·split at hk
   ·cases hk
   ·exact h.now k i hk
 ·show (f.wait++_).length≤_
  rw [z2,zm];omega
 ·show ((f.dk++[Dk.nil]).length+1)*S≤cap
  rw [z2,zm];exact hroom
theorem ez {B ps p tp cap S id en w n c n2 c2:Nat} {A A2:Option Addr} {so s:AQ} {l0 l l1:List AS} {f:Fs} {F:List AE} {h0:AA} (st0:St B h0 h0 (pt ps 100 (DC p tp id en s false)::BF p cap f::F)) (hI:SI f S cap id w so s l0 l)
  (ht:∀h' rs,St B h0 h' (rs++F)→CN h' tp) (hr:Rd h0 A ((AX l1).map AN)) (hl:(AX l1).length=n) (hr2:Rd h0 A2 (Bf (mems l1))) (hl2:(mems l1).length=n2) (hL:B4 l1) (hroom:(f.dk.length+2)*S≤cap) (hdk:f.dk.length<1000) (hS:Ba (0+(CE l1).length)≤S):
  AG Tryz.prog 77 [AM ps,.slice A n c,.slice A2 n2 c2] h0 fun v h'=>(v=nV 0∧∃f' id' en' s',DV f' [l1]∧St B h0 h' (pt ps 100 (DC p tp id' en' s' false)::BF p cap f'::F))∨
   (v=nV 10∧f.quiet=false∧∃f' po,DV f' [l0,l1]∧St B h0 h' (pt ps 100 (DC p tp id en s po)::BF p cap f'::F)):=by
 have st:=st0
 obtain ⟨hA,hT,hE⟩:=hI.set.nowA
 have hwt:f.wait.length≤1000:=by rw [hI.set.wait];simp
 have hmk:=bC hI.fit hT hE hroom hwt
 have hff:=hL.fit
 have hil:=M8 l1
 have hdi:=(TN (ML hL (q:=0) (by omega)) (ML hL (q:=1) (by omega))).may
 refine Bg Tryz.func77 rfl fun _=>FX ?_
 refine xc st 0 9 ?_
 refine BP ?_
 refine xc st 0 1 ?_
 refine AB ?_
 refine xk (R7 (ht _ [_,_] st) hr hl hr2 hl2 hL) rfl ?_
 rintro _ hp2 ⟨w1,rfl,st2⟩
 replace st:=st.join st2
 simp only [z5,z4]at st
 obtain ⟨A5,n5,c5,rfl,hlen5,hnc5,_,_⟩:=st.row 0 rfl
 rw [z3,zf]at hlen5
 refine Fv ?_
 refine xc st 1 0 ?_
 refine AF ?_
 refine xc st 1 2 ?_
 refine AC ?_
 refine xk (R8 (S:=S) (F:=row 5 1 (.slice A5 n5 c5) ((CE l1).map AN)::pt ps 100 (DC p tp id en s false)::F) (st.here.sel 3 [2,0,1]) hI.fit hmk hwt hT hE hdk (fun h' rs s=>s.rdF) hlen5 hnc5 (by rw [←hlen5];exact hS) (by omega)) rfl ?_
 refine fun v hp1 hh=>hh.elim (fun hh=> ?_) (fun hh=> ?_)
 ·obtain ⟨rfl,st2⟩:=hh
  replace st:=(st.trans st2).sel 3 [2,0]
  simp only [BU,BV,An]at st
  refine IV ?_
  refine xa (Bk (n:=1024) rfl rfl (by omega) (by simp only [AI];omega)) (AB ?_)
  refine xa (Bk rfl rfl (by omega) (by simp only [AI];omega)) ?_
  refine xk (R5 (q:=1) (by omega) _) rfl ?_
  rintro _ hp3 ⟨rfl,hx3⟩
  replace st:=st.ext hx3
  obtain ⟨n',hn'⟩:∃n',AQ.mk ((1:Nat):Int) ((1024+n:Nat):Int) ((n5-1024-n:Nat):Int) true=n':=⟨_,rfl⟩
  have hn'e:n'.en=((1024+n:Nat):Int):=by rw [←hn']
  rw [hn']
  refine AB ?_
  refine xj st 0 fun hp st=> ?_
  simp only [z0,z1]at st
  refine AB ?_
  refine BT (Nq (us:=BA n') st 0 (o:=5) rfl rfl rfl rfl rfl (DB n') (Nat.le_of_ble_eq_true rfl)) rfl rfl fun _ hp st=> ?_
  simp only [z0,z1]at st
  refine AP ?_
  refine xl (st.cell 0 (i:=6) rfl (by show some (Value.int .i64 n'.en)=some (nV (1024+n));rw [hn'e])) rfl (AB ?_)
  refine xj st 0 fun hp st=> ?_
  simp only [z0,z1]at st
  refine AL ?_
  exact .inl ⟨rfl,_,_,_,n',aT hE hdi,st⟩
 ·obtain ⟨hq,id2,b2,f',rfl,hF,st2⟩:=hh
  replace st:=(st.trans st2).sel 3 [2,0]
  simp only [BU,BV,An]at st
  refine HQ ?_
  refine xj st 0 fun hp st=> ?_
  simp only [z0,z1]at st
  refine AO ?_
  exact .inr ⟨rfl,hq,f',b2,aR hI.set hF hdi,st⟩
theorem Y4 {B p tp cap i:Nat} {d:Dk} {s:AQ} {l:List AS} {f:Fs} {F:List AE} {h0:AA} (st0:St B h0 h0 (BF p cap f::F)) (ht:∀h' rs,St B h0 h' (rs++F)→CN h' tp) (hq:f.quiet=true) (hN:f.now B7=some i) (hd:f.dk[i]? =some d) (hok:d.ok) (hdS:d.safe.length≤10000) (hG:Et d.now l s) (hL:B4 l):
  AG Tryz.prog 81 [AM p,AM tp,AU B7] h0 fun v h'=>∃ps w,v=Al [AM ps,w,nV 0]∧St B h0 h' (CJ w (mems l)::pt ps 100 (DC p tp i (1024+(AX l).length) s false)::BF p cap ((f.setD i d.sync).syncD)::F):=by
 have st:=st0
 have hsl:=Dk.sync_len d
 have hlen:=hok.len
 refine Bg Tryz.func81 rfl fun _=>IU ?_
 refine xk (OP (k:=B7) st.here) rfl ?_
 rintro _ _ ⟨rfl,rfl⟩
 rw [hN]
 refine Fv ?_
 refine xk (OQ (S:=0) st.here hd) rfl ?_
 rintro _ hp2 hh
 obtain ⟨rfl,st2⟩:=hh.elim id (fun hh=>absurd (hq.symm.trans hh.2.1) (by decide))
 replace st:=st.trans st2
 refine B3 ?_
 refine xk (RD st.here) rfl ?_
 rintro _ hp2 hh
 obtain ⟨rfl,st2⟩:=hh.elim id (fun hh=>absurd (hq.symm.trans hh.2.1) (by decide))
 replace st:=st.trans st2
 have hd2:(f.setD i d.sync).syncD.dk[i]? =some d.sync:=Fs.setD_get hd
 refine Cp ?_
 refine xk (XI st.here hd2) rfl ?_
 rintro _ _ ⟨rfl,rfl⟩
 rw [hsl.1]
 refine xa (D0 (m:=d.safe.length) (n:=512) rfl rfl (by simp only [AI];omega)) ?_
 refine xk (RC (a:=0) (m:=d.safe.length*512) st.here hd2 (by show _≤d.now.length;omega)) rfl ?_
 rintro _ hp5 ⟨w5,rfl,st5⟩
 rw [List.drop_zero,za (by show d.now.length≤_;omega)]at st5
 replace st:=st.join st5
 simp only [z5,z4]at st
 obtain ⟨A5,n5,c5,rfl,hlen5,hnc5,_,hrd5⟩:=st.row 0 rfl
 rw [z3,zf]at hlen5
 have hlen5:d.now.length=n5:=hlen5
 refine BP ?_
 refine xk (R9 (ht _ [_,_] st) hrd5 hlen5 (by omega) hnc5 hG hL) rfl ?_
 rintro _ hp6 ⟨w6,rfl,st6⟩
 replace st:=st.join st6
 simp only [z5,z4]at st
 refine AJ ?_
 refine xn st fun p13 hp st=> ?_
 refine xw (us:=BA s) st 0 (DB s) fun hp st=> ?_
 simp only [z0]at st
 refine FX ?_
 refine xl (st.cell 0 (i:=1) rfl (by show some (Value.int .i64 s.en)=some (nV (1024+(AX l).length));rw [hG.en])) rfl ?_
 refine xa (Ai (vs:=BA s) (st.cells 0 rfl) rfl rfl rfl rfl) ?_
 refine xa (AZ (ps:=[(0,AM p),(1,AM tp),(2,AU B7),(3,nV i),(4,nV (1024+(AX l).length)),(5,.agg (BA s).toArray)]) (cs:=(DC p tp i (1024+(AX l).length) s false).toArray) rfl (by kernel_rfl)) ?_
 refine xb (us:=DC p tp i (1024+(AX l).length) s false) st fun ps hp st=>AL ?_
 exact ⟨ps,_,rfl,st.sel 5 [2,0,4]⟩
end Go.Bn
end

section
namespace Go.Bn
open Go Proofs
theorem gX {tp n c n2 c2:Nat} {A A2:Option Addr} {b:List UInt8} {l:List AS} {h0:AA} (ht:CN h0 tp) (hr:Rd h0 A (b.map AN)) (hl:b.length=n) (hn:n≤1048576) (hnc:n≤c) (hA:At b 1024 (AX l)) (hL:B4 l) (hr2:Rd h0 A2 (Bf (mems l))) (hl2:(mems l).length=n2):
  AG Tryz.prog 88 [AM tp,.slice A n c,.slice A2 n2 c2] h0 fun v h'=>v=Al [.agg (AY ⟨[],0,0,0,0,0,0⟩).toArray,nV 0]∧AV h0 h':=by
 have st:=St.start h0
 have hM:=hL.mems.1
 have hMl:=hM.len
 refine Bg Tryz.func88 rfl fun _=>AB ?_
 refine xn st fun p6 hp st=>AB ?_
 refine Hx rfl (fun _ _ _ hh=>hh) (AB ?_)
 refine xa (AZ (ps:=[]) (cs:=(AY ⟨[],0,0,0,0,0,0⟩).toArray) rfl (by kernel_rfl)) ?_
 refine xn st fun p8 hp st=> ?_
 refine xw (us:=AY ⟨[],0,0,0,0,0,0⟩) st 0 (Cl _) fun hp st=> ?_
 simp only [z0]at st
 refine By ?_
 have st1:=st
 refine BD (fun s=>n2-s) (fun s=>[(0,AM tp),(1,.slice A n c),(6,AM p6),(8,AM p8),(9,nV 0),(15,.slice A2 n2 c2),(16,nV n2),(17,nV s)])
  (fun (s:Nat) hp=>s≤n2∧∃cs,cs.length=7∧St h0.size h0 hp [pt p8 92 (AY ⟨[],0,0,0,0,0,0⟩),pt p6 92 cs]) 0 (FF rfl rfl rfl rfl rfl rfl rfl rfl) ⟨Nat.zero_le _,_,rfl,st⟩ ?_
 clear st st1
 rintro s hp ⟨hs,cs6,hcs6,st⟩
 refine AH ?_
 refine AK rfl (fun h=> ?_) (fun h=> ?_)
 ·obtain ⟨m,hm⟩:∃m,(mems l)[s]? =some m:=⟨_,z9 (by omega)⟩
  obtain ⟨q,hq,rfl,_⟩:=LW (List.mem_of_getElem? hm)
  obtain ⟨hqA,hq1,hq2,hq3⟩:=PK hA hq
  obtain ⟨bb,o,rfl,hc0⟩:=Rd.flat AY 7 (hr2.ext st.low) (fun _=>rfl) (by omega) (by omega)
  have hda:=fun {h:AA} (hx:AV h0 h)=>VZ (p:=q.1) (e:=q.2) (ht.ext hx) (hr.ext hx) hl hn hnc hqA (hL.ok _ hq3) hq2
  have hmm:Cc (q.1,q.2)=Cc q:=rfl
  rw [hmm]at hda
  obtain ⟨m,hme⟩:∃m,Cc q=m:=⟨_,rfl⟩
  rw [hme]at hda hm
  refine AH ?_
  refine xa (Bp (i:=s) rfl rfl rfl (by omega)) ?_
  refine xa (Ai (vs:=AY m) (fun z u hz=>hc0 s (by omega) z u (by rw [(zc.1 hm).2];exact hz)) rfl rfl rfl rfl) ?_
  refine xn st fun p11 hp st=> ?_
  refine xw (us:=AY m) st 0 (Cl m) fun hp st=> ?_
  simp only [z0]at st
  refine AH ?_
  refine xa (Ai (vs:=AY m) (st.cells 0 rfl) rfl rfl rfl rfl) ?_
  refine xk (hda st.low) rfl ?_
  rintro _ hp3 ⟨w,rfl,st3⟩
  replace st:=st.ext st3.low
  refine FX ?_
  exact Ad (s+1) (FF rfl rfl rfl rfl rfl rfl rfl rfl) ⟨by omega,cs6,hcs6,st.tail⟩ (by omega)
 ·refine AF ?_
  refine xa (Ai (vs:=AY ⟨[],0,0,0,0,0,0⟩) (st.cells 0 rfl) rfl rfl rfl rfl) (AC ?_)
  refine BT (D3 (us:=AY ⟨[],0,0,0,0,0,0⟩) st 1 rfl rfl rfl rfl rfl (Cl _) (by rw [hcs6];rfl)) rfl rfl fun _ hp st=> ?_
  simp only [z0,z1]at st
  refine AB ?_
  refine Af (.cons (Ax (vs:=AY ⟨[],0,0,0,0,0,0⟩) rfl rfl rfl (st.cells 1 rfl)) (.cons (.tmp rfl) .nil)) ?_
  exact ⟨rfl,st.low⟩
theorem gT {tp n c en n2 c2:Nat} {A A2:Option Addr} {b:List UInt8} {l:List AS} {h0:AA} (ht:CN h0 tp) (hr:Rd h0 A (b.map AN)) (hl:b.length=n) (hn:n≤1048576) (hnc:n≤c) (hen:1024+(AX l).length=en) (hfit:en≤n) (hA:At b 1024 (AX l)) (hL:B4 l) (hr2:Rd h0 A2 (Bf (mems l))) (hl2:(mems l).length=n2):
  AG Tryz.prog 87 [AM tp,.slice A n c,nV en,.slice A2 n2 c2] h0 fun v h'=>v=nV 0∧AV h0 h':=by
 have hM:=hL.mems.1
 have hMl:=hM.len
 have hll:=hL.len
 refine Gx Tryz.func87 rfl fun _=>Aj ?_
 refine xk (Qf ht hr hl (by omega) hnc hen hfit hA hL.ok (by omega)) rfl ?_
 rintro _ hp2 ⟨w,rfl,st⟩
 obtain ⟨A5,n5,c5,rfl,hlen5,hnc5,_,hrd5⟩:=st.row 0 rfl
 rw [CX]at hlen5
 obtain rfl:n2=n5:=by omega
 refine HQ ?_
 refine xk (ZV hrd5 (hr2.ext st.low) hl2 (by omega)) rfl ?_
 rintro _ _ ⟨rfl,rfl⟩
 refine Bu ?_
 exact ⟨rfl,st.low⟩
@[reducible] def IP (s:AQ) (vm vf g w:Value):List Value:=[.int .i64 s.seq,.int .i64 s.en,.int .i64 s.dir,.bool s.cl,vm,vf,g,w]
theorem QR {s:AQ} {vm vf g w:Value} (h1:Value.one vm=true) (h2:Value.one vf=true) (h3:Value.one g=true) (h4:Value.one w=true):∀u∈IP s vm vf g w,Value.one u=true:=by
 intro u hu
 simp only [IP,List.mem_cons,zl,or_false]at hu
 rcases hu with rfl | rfl | rfl | rfl | rfl | rfl | rfl | rfl
 ·rfl
 ·rfl
 ·rfl
 ·rfl
 ·exact h1
 ·exact h2
 ·exact h3
 ·exact h4
theorem gW {tp n c:Nat} {A:Option Addr} {b:List UInt8} {l:List AS} {s:AQ} {h0:AA} (ht:CN h0 tp) (hr:Rd h0 A (b.map AN)) (hl:b.length=n) (hn:n≤1048576) (hnc:n≤c) (hG:Et b l s) (hL:B4 l):
  AG Tryz.prog 47 [AM tp,.slice A n c] h0 fun v h'=>(∃cs:List Value,cs.length=8∧(∀u∈cs,Value.one u=true)∧v=Al [.agg cs.toArray,nV 0])∧AV h0 h':=by
 have st:=St.start h0
 have hM:=hL.mems.1
 have hMl:=hM.len
 have hll:=hL.len
 have hA:=hG.log
 have hfit:=hG.fits
 obtain ⟨en,hen⟩:∃en,1024+(AX l).length=en:=⟨_,rfl⟩
 have hs1:(BA s)[1]? =some (nV en):=by show some (Value.int .i64 s.en)=_;rw [hG.en,hen]
 rw [hen,hl]at hfit
 refine Ac Tryz.func47 rfl fun _=>AB ?_
 refine xn st fun p4 hp st=>AL ?_
 refine xk (R9 (ht.ext st.low) (hr.ext st.low) hl (by omega) hnc hG hL) rfl ?_
 rintro _ hp2 ⟨w1,rfl,st2⟩
 replace st:=st.join st2
 simp only [z5,z4]at st
 obtain ⟨A5,n5,c5,rfl,hlen5,hnc5,_,_⟩:=st.row 0 rfl
 rw [CX]at hlen5
 refine AJ ?_
 refine xn st fun p6 hp st=> ?_
 refine xw (us:=BA s) st 0 (DB s) fun hp st=> ?_
 simp only [z0]at st
 refine EY ?_
 refine xl (st.cell 0 (i:=1) rfl hs1) rfl (AC ?_)
 refine xk (gT (ht.ext st.low) (hr.ext st.low) hl hn hnc hen hfit hA hL (st.rdS 1 rfl).2 (by omega)) rfl ?_
 rintro _ hp3 ⟨rfl,hx3⟩
 replace st:=st.ext hx3
 refine Cp ?_
 refine xk (gX (ht.ext st.low) (hr.ext st.low) hl hn hnc hA hL (st.rdS 1 rfl).2 (by omega)) rfl ?_
 rintro _ hp4 ⟨rfl,hx4⟩
 replace st:=st.ext hx4
 refine Bq ?_
 refine xa (Ai (vs:=BA s) (st.cells 0 rfl) rfl rfl rfl rfl) (AC ?_)
 refine xa (AZ (ps:=[(0,.agg (BA s).toArray),(1,.slice A5 n5 c5)]) (cs:=(IP s (.slice A5 n5 c5) (.slice none 0 0) (nV 0) (nV 0)).toArray) rfl (by kernel_rfl)) ?_
 refine xn st fun p9 hp st=> ?_
 refine xw (us:=IP s (.slice A5 n5 c5) (.slice none 0 0) (nV 0) (nV 0)) st 0 (QR rfl rfl rfl rfl) fun hp st=> ?_
 simp only [z0]at st
 refine Aj ?_
 have st1:=(st.nilrow 45 2).sw
 refine BD (fun s=>n5-s) (fun s=>[(0,AM tp),(1,.slice A n c),(4,AM p4),(6,AM p6),(9,AM p9),(49,.slice A5 n5 c5),(50,nV n5),(51,nV s)])
  (fun (i:Nat) hp=>i≤n5∧∃vf vs cs,vs.length=i*2∧(∀u∈vs,Value.one u=true)∧cs.length=8∧St h0.size h0 hp [pt p9 83 (IP s (.slice A5 n5 c5) vf (nV 0) (nV 0)),row 45 2 vf vs,pt p6 80 (BA s),CJ (.slice A5 n5 c5) (mems l),pt p4 83 cs]) 0 (FF rfl rfl rfl rfl rfl rfl rfl rfl) ⟨Nat.zero_le _,_,_,_,rfl,(by simp),rfl,st1⟩ ?_
 clear st st1
 rintro i hp ⟨hi,vf,vs,cs,hvs,hv1,hcs,st⟩
 refine AH ?_
 refine AK rfl (fun h=> ?_) (fun h=> ?_)
 ·obtain ⟨m,hm⟩:∃m,(mems l)[i]? =some m:=⟨_,z9 (by omega)⟩
  obtain ⟨q,hq,rfl,_⟩:=LW (List.mem_of_getElem? hm)
  obtain ⟨hqA,hq1,hq2,hq3⟩:=PK hA hq
  obtain ⟨bb,o,rfl,hc0⟩:=Rd.flat AY 7 (st.rdS 3 rfl).2 (fun _=>rfl) (by omega) (by omega)
  have hda:=fun {h:AA} (hx:AV h0 h)=>VZ (p:=q.1) (e:=q.2) (ht.ext hx) (hr.ext hx) hl hn hnc hqA (hL.ok _ hq3) hq2
  have hmm:Cc (q.1,q.2)=Cc q:=rfl
  rw [hmm]at hda
  obtain ⟨m,hme⟩:∃m,Cc q=m:=⟨_,rfl⟩
  rw [hme]at hda hm
  refine AH ?_
  refine xa (Bp (i:=i) rfl rfl rfl (by omega)) ?_
  refine xa (Ai (vs:=AY m) (fun z u hz=>hc0 i (by omega) z u (by rw [(zc.1 hm).2];exact hz)) rfl rfl rfl rfl) ?_
  refine xn st fun p11 hp st=> ?_
  refine xw (us:=AY m) st 0 (Cl m) fun hp st=> ?_
  simp only [z0]at st
  refine AH ?_
  refine xa (Ai (vs:=AY m) (st.cells 0 rfl) rfl rfl rfl rfl) ?_
  refine xk (hda st.low) rfl ?_
  rintro _ hp3 ⟨w,rfl,st3⟩
  obtain ⟨A7,n7,c7,rfl,_⟩:=st3.row 0 rfl
  replace st:=st.ext st3.low
  refine AP ?_
  refine xc st 1 5 ?_
  refine AC ?_
  refine xc st 0 0 ?_
  refine AC ?_
  refine xa (AZ (ps:=[(0,AU m.name),(1,.slice A7 n7 c7)]) (cs:= #[AU m.name,.slice A7 n7 c7]) rfl rfl) ?_
  refine xv (D4 (us:=[AU m.name,.slice A7 n7 c7]) rfl rfl rfl rfl (by kernel_rfl)) ?_
  rintro _ hp ⟨A2,rfl,hx,hrd⟩
  replace st:=st.ext hx
  refine BN (BY st 2 rfl (hrd) (rfl) (by simp [Value.one]) (by rw [hvs];simp;omega) rfl rfl rfl rfl rfl rfl rfl) rfl rfl rfl fun v hp st=> ?_
  simp only [z0,z1]at st
  obtain ⟨A8,n8,c8,rfl,_⟩:=st.row 2 rfl
  refine AC ?_
  refine xj st 1 fun hp st=> ?_
  simp only [z0,z1]at st
  refine AL ?_
  exact Ad (i+1) (FF rfl rfl rfl rfl rfl rfl rfl rfl) ⟨by omega,_,_,cs,by rw [z2,hvs];simp;omega,by simp only [List.mem_append,List.mem_cons,zl,or_false];rintro u (hu | rfl | rfl) <;> first | exact hv1 u hu | rfl,hcs,st.tail⟩ (by omega)
 ·obtain ⟨A8,n8,c8,rfl,_⟩:=st.row 1 rfl
  refine AL ?_
  refine xl (st.cell 2 (i:=1) rfl hs1) rfl ?_
  refine xk (eP (ht.ext st.low) (hr.ext st.low) hl (by omega) hnc hen hfit hA hL.ok (by omega)) rfl ?_
  rintro _ hp5 ⟨rfl,hx5⟩
  replace st:=st.ext hx5
  refine AH ?_
  refine xj st 0 fun hp st=> ?_
  simp only [z0,z1]at st
  refine AL ?_
  refine xl (st.cell 2 (i:=1) rfl hs1) rfl ?_
  refine xk (eS (ht.ext st.low) (hr.ext st.low) hl (by omega) hnc hen hfit hA hL.ok (by omega)) rfl ?_
  rintro _ hp6 ⟨⟨wa,rfl⟩,hx6⟩
  replace st:=st.ext hx6
  refine AJ ?_
  refine xj st 0 fun hp st=> ?_
  simp only [z0,z1]at st
  replace st:St h0.size h0 hp (pt p9 83 (IP s (.slice A5 n5 c5) (.slice A8 n8 c8) (nV 0) (.int .i64 wa))::_):=st
  refine AF ?_
  refine xa (Ai (vs:=IP s (.slice A5 n5 c5) (.slice A8 n8 c8) (nV 0) (.int .i64 wa)) (st.cells 0 rfl) rfl rfl rfl rfl) ?_
  refine BT (D3 (us:=IP s (.slice A5 n5 c5) (.slice A8 n8 c8) (nV 0) (.int .i64 wa)) st 4 rfl rfl rfl rfl rfl (QR rfl rfl rfl rfl) (by rw [hcs];rfl)) rfl rfl fun _ hp st=> ?_
  simp only [z0,z1]at st
  refine AB ?_
  refine Af (.cons (Ax (vs:=IP s (.slice A5 n5 c5) (.slice A8 n8 c8) (nV 0) (.int .i64 wa)) rfl rfl rfl (st.cells 4 rfl)) (.cons (.tmp rfl) .nil)) ?_
  exact ⟨⟨_,rfl,QR rfl rfl rfl rfl,rfl⟩,st.low⟩
theorem W4 {B p tp cap i:Nat} {d:Dk} {s:AQ} {l:List AS} {f:Fs} {F:List AE} {h0:AA} (st0:St B h0 h0 (BF p cap f::F)) (ht:CN h0 tp) (hN:f.now B7=some i) (hd:f.dk[i]? =some d) (hok:d.ok) (hdS:d.safe.length≤2000) (hG:Et d.now l s) (hL:B4 l):
  AG Tryz.prog 25 [AM p,AM tp,AU B7] h0 fun v h'=>(∃cs:List Value,cs.length=8∧(∀u∈cs,Value.one u=true)∧v=Al [.agg cs.toArray,nV 0])∧AV h0 h':=by
 have hlen:=hok.len
 have st:=St.start h0
 refine Bg Tryz.func25 rfl fun _=>AB ?_
 refine xn st fun p6 hp st=>FX ?_
 refine xk (OP (k:=B7) (st0.ext st.low).here) rfl ?_
 rintro _ _ ⟨rfl,rfl⟩
 rw [hN]
 refine Hp ?_
 refine xk (XI (st0.ext st.low).here hd) rfl ?_
 rintro _ _ ⟨rfl,rfl⟩
 refine xa (D0 (m:=d.safe.length) (n:=512) rfl rfl (by simp only [AI];omega)) ?_
 refine xk (RC (a:=0) (m:=d.safe.length*512) (st0.ext st.low).here hd (by omega)) rfl ?_
 rintro _ hp5 ⟨w5,rfl,st5⟩
 rw [List.drop_zero,za (by omega)]at st5
 replace st:=st.join st5
 simp only [z5,z4]at st
 obtain ⟨A5,n5,c5,rfl,hlen5,hnc5,_,hrd5⟩:=st.row 0 rfl
 rw [z3,zf]at hlen5
 refine FX ?_
 refine xk (gW (ht.ext st.low) hrd5 hlen5 (by omega) hnc5 hG hL) rfl ?_
 rintro _ hp6 ⟨⟨cs,hcl,hc1,rfl⟩,hx6⟩
 replace st:=st.ext hx6
 refine AB ?_
 refine BT (D3 (us:=cs) st 1 rfl rfl rfl rfl (by rw [hcl];rfl) hc1 (by rw [hcl];rfl)) rfl rfl fun _ hp st=> ?_
 simp only [z0,z1]at st
 refine AB ?_
 refine Af (.cons (Ax (vs:=cs) rfl rfl hcl (st.cells 1 rfl)) (.cons (.tmp rfl) .nil)) ?_
 exact ⟨⟨cs,hcl,hc1,rfl⟩,st.low⟩
end Go.Bn
end

section
namespace Go.Bn
open Go Proofs
theorem S5 (off:Nat) (Y:List Value):∀ (xs X pre:List Value) (k:Nat),X.length=xs.length→pre.length=off+k→
  (xs.zipIdx k).foldl (fun (cs:Array Value) (q:Value×Nat)=>cs.setIfInBounds (off+q.2) q.1) (pre++X++Y).toArray=(pre++xs++Y).toArray
 | [],X,pre,k,hX,_=>by
  obtain rfl:=List.eq_nil_of_length_eq_zero hX;rfl
 | x::xs,X,pre,k,hX,hp=>by
  rcases X with _ | ⟨y,X⟩
  ·cases hX
  have e:(pre++(y::X)++Y).toArray.setIfInBounds (off+k) x=((pre++[x])++X++Y).toArray:=by
   rw [List.setIfInBounds_toArray,←hp]
   congr 1
   simp
  rw [List.zipIdx_cons,List.foldl_cons]
  simp only
  rw [e,S5 off Y xs X (pre++[x]) (k+1) (by simpa using hX) (by rw [z2,zm];omega)]
  simp
def Cj (vs vx:Value) (op:Bool):List Value:=Eh++[vs,vx,.pointer none,.bool op]
theorem Rg (vs vx:Value) (op:Bool):(Cj vs vx op).length=260:=by simp [Cj,FG]
theorem Me (vs vx:Value) (op:Bool) (i:Nat):(Cj vs vx op)[256+i]? =[vs,vx,.pointer none,.bool op][i]? :=by
 unfold Cj
 rw [zh (by rw [FG];omega),FG,Nat.add_sub_cancel_left]
theorem Fx (vs vx:Value) (op:Bool):(Cj vs vx op)[256]? =some vs:=Me vs vx op 0
theorem HB (vs vx:Value) (op:Bool):(Cj vs vx op)[257]? =some vx:=Me vs vx op 1
theorem Hy (vs vx:Value) (op:Bool):(Cj vs vx op)[258]? =some (.pointer none):=Me vs vx op 2
theorem Fy (vs vx:Value) (op:Bool):(Cj vs vx op)[259]? =some (.bool op):=Me vs vx op 3
theorem Xt (vs vx x:Value) (op:Bool):(Cj vs vx op).set 256 x=Cj x vx op:=by
 unfold Cj;rw [List.set_append_right _ _ (by rw [FG];omega),FG];rfl
theorem Rh (vs vx x:Value) (op:Bool):(Cj vs vx op).set 257 x=Cj vs x op:=by
 unfold Cj;rw [List.set_append_right _ _ (by rw [FG];omega),FG];rfl
theorem OY (vs vx:Value) (op b:Bool):(Cj vs vx op).set 259 (.bool b)=Cj vs vx b:=by
 unfold Cj;rw [List.set_append_right _ _ (by rw [FG];omega),FG];rfl
theorem J7 (vs vx:Value) (op:Bool) {i:Nat} (h:i<260):Nat.blt i (Cj vs vx op).length=true:=by rw [Rg];simpa [Nat.blt_eq]using h
theorem Ib {B:Nat} {h0 hp:AA} {rs:List AE} {T pa:Nat} {vs vx:Value} {op:Bool} (st:St B h0 hp rs) (j:Nat) (hj:rs[j]? =some (pt pa T (Cj vs vx op))):CN hp pa:=fun i hi=>st.cell j hj (by
 unfold Cj;rw [zi (by rw [FG];exact hi)];exact We i hi)
theorem K1 {B:Nat} {h0 hp:AA} {rs F:List AE} {T pa:Nat} {vs vx:Value} {op:Bool} (st:St B h0 hp (rs++(pt pa T (Cj vs vx op)::F))):CN hp pa:=Ib (T:=T) (vs:=vs) (vx:=vx) (op:=op) st rs.length (by simp)
theorem Xv (ps:List (Nat×Value)):Tryz.prog.built 75 ps=Instr.fill (#[((0:Nat),(256:Nat)),(256,1),(257,1),(258,1),(259,1)][·]?) (List.replicate 256 (Value.int .u32 0)++([Value.pointer none,Value.pointer none,Value.pointer none,Value.bool false]:List Value)).toArray ps:=by
 kernel_rfl
theorem Xu:Tryz.prog.built 75 [(0,.agg Eh.toArray),(4,.bool true)]=some (Cj (.pointer none) (.pointer none) true).toArray:=by
 rw [Xv]
 have e1:(Value.agg Eh.toArray).cells=Eh.toArray:=rfl
 have hz:Eh.toArray.zipIdx.foldl (fun (cs:Array Value) (q:Value×Nat)=>cs.setIfInBounds (0+q.2) q.1) (List.replicate 256 (Value.int .u32 0)++([Value.pointer none,Value.pointer none,Value.pointer none,Value.bool false]:List Value)).toArray=(Cj (.pointer none) (.pointer none) false).toArray:=by
  have hzz:Eh.toArray.zipIdx=Eh.zipIdx.toArray:=by simp
  rw [hzz,List.foldl_toArray]
  have:=S5 0 ([Value.pointer none,Value.pointer none,Value.pointer none,Value.bool false]:List Value) Eh (List.replicate 256 (Value.int .u32 0)) [] 0 (by rw [FG];simp) rfl
  rw [z4,z4]at this
  exact this
 have hs:Eh.toArray.size=256:=by rw [List.size_toArray,FG]
 have hp0:(#[((0:Nat),(256:Nat)),(256,1),(257,1),(258,1),(259,1)]:Array (Nat×Nat))[0]? =some (0,256):=rfl
 have hp4:(#[((0:Nat),(256:Nat)),(256,1),(257,1),(258,1),(259,1)]:Array (Nat×Nat))[4]? =some (259,1):=rfl
 have hb:(Value.bool true).cells= #[.bool true]:=rfl
 rw [Instr.fill,hp0]
 simp only [e1,hs]
 rw [if_neg (by simp),hz,Instr.fill,hp4]
 simp only [hb]
 have ha:(Cj (Value.pointer none) (Value.pointer none) false).toArray.size=260:=by rw [List.size_toArray,Rg]
 rw [if_neg (by rw [ha];simp),Instr.fill]
 have:=OY (.pointer none) (.pointer none) false true
 simp [←this]
end Go.Bn
end

section
namespace Go.Bn
open Go Proofs
@[reducible] def B9 (pa px ps p cap id en:Nat) (s:AQ) (po op:Bool) (w:Value) (l:List Av) (f:Fs) (F:List AE):List AE:=
  pt pa 75 (Cj (AM ps) (AM px) op)::pt px 181 [w]::CJ w l::pt ps 100 (DC p pa id en s po)::BF p cap f::F
theorem Xd {B p cap S:Nat} {F:List AE} {h0:AA} (st0:St B h0 h0 (BF p cap Dh::F)) (hS:3≤S∧2*S≤cap) (hcap:cap≤65536):
  AG Tryz.prog 22 [AM p,AU B7] h0 fun v h'=>v=nV 0∧St B h0 h' (BF p cap (EG Dh (CE []))::F):=by
 have st:=st0
 refine Ac Tryz.func22 rfl fun _=>AL ?_
 refine xk (Pd _) rfl ?_
 rintro _ hp1 ⟨rfl,hx1⟩
 replace st:=st.ext hx1
 refine xn st fun p5 hp st=> ?_
 refine BT (D3 (us:=Eh) st 0 rfl rfl rfl rfl (by rw [FG];rfl) Qu (by rw [FG];rfl)) rfl rfl fun _ hp st=> ?_
 simp only [z0]at st
 refine AH ?_
 refine xk (Yl (S:=S) (F:=pt p5 70 Eh::F) st.here.sw (st.tab 0 rfl) rfl hS hcap) rfl ?_
 rintro _ hp2 ⟨rfl,st2⟩
 replace st:=st.trans st2
 refine AF ?_
 exact ⟨rfl,st.sel 2 [0]⟩
theorem Xn {B p cap i:Nat} {d:Dk} {s:AQ} {l:List AS} {f:Fs} {F:List AE} {h0:AA} (st0:St B h0 h0 (BF p cap f::F)) (hq:f.quiet=true) (hN:f.now B7=some i) (hd:f.dk[i]? =some d) (hok:d.ok) (hdS:d.safe.length≤10000) (hG:Et d.now l s) (hL:B4 l):
  AG Tryz.prog 41 [AM p,AU B7] h0 fun v h'=>∃pa px ps w,v=Al [AM pa,nV 0]∧St B h0 h' (B9 pa px ps p cap i (1024+(AX l).length) s false true w (mems l) (f.setD i d.sync).syncD F):=by
 have st:=st0
 have hM:=hL.mems.1
 refine Ac Tryz.func41 rfl fun _=>AO ?_
 refine xk (Pd _) rfl ?_
 rintro _ hp1 ⟨rfl,hx1⟩
 replace st:=st.ext hx1
 refine xa (AZ (ps:=[(0,.agg Eh.toArray),(4,.bool true)]) (cs:=(Cj (.pointer none) (.pointer none) true).toArray) rfl Xu) ?_
 refine xb (us:=Cj (.pointer none) (.pointer none) true) st fun pa hp st=>Aj ?_
 refine xk (Y4 (tp:=pa) (F:=pt pa 75 (Cj (.pointer none) (.pointer none) true)::F) st.here.sw (fun h' rs s=>K1 s) hq hN hd hok hdS hG hL) rfl ?_
 rintro _ hp2 ⟨ps,w2,rfl,st2⟩
 replace st:=st.trans st2
 obtain ⟨A5,n5,c5,rfl,hlen5,hnc5,_,_⟩:=st.row 0 rfl
 rw [CX]at hlen5
 refine Fv ?_
 refine xk (XH (st.rdS 0 rfl).2 (by omega) hM) rfl ?_
 rintro _ hp3 ⟨px,w3,rfl,st3⟩
 replace st:=st.join st3
 simp only [z5,z4]at st
 refine IU ?_
 refine BT (FE (i:=256) st 5 rfl rfl rfl (J7 _ _ _ (by omega)) rfl rfl) rfl rfl fun _ hp st=> ?_
 simp only [z0,z1,Xt]at st
 refine AB ?_
 refine BT (FE (i:=257) st 5 rfl rfl rfl (J7 _ _ _ (by omega)) rfl rfl) rfl rfl fun _ hp st=> ?_
 simp only [z0,z1,Rh]at st
 refine AP ?_
 exact ⟨pa,px,ps,w3,rfl,st.sel 6 [5,0,1,3,4]⟩
theorem JA {pa:Nat} {h0:AA} (h:Az h0 ⟨pa,259,none⟩=some (.bool true)):AG Tryz.prog 20 [AM pa] h0 fun v h'=>v=nV 0∧h0=h':=by
 refine BE Tryz.func20 rfl fun _=>FX ?_
 refine xl (h) rfl (Bu ?_)
 exact ⟨rfl,rfl⟩
theorem Kz {pa ps:Nat} {h0:AA} (h1:Az h0 ⟨pa,259,none⟩=some (.bool true)) (h2:Az h0 ⟨pa,258,none⟩=some (.pointer none)) (h3:Az h0 ⟨pa,256,none⟩=some (AM ps)) (h4:Az h0 ⟨ps,9,none⟩=some (.bool false)):AG Tryz.prog 55 [AM pa] h0 fun v h'=>v=nV 0∧h0=h':=by
 refine BE Tryz.func55 rfl fun _=>AP ?_
 refine xk (JA h1) rfl ?_
 rintro _ _ ⟨rfl,rfl⟩
 refine Bb ?_
 refine xl (h2) rfl (Aj ?_)
 refine xl (h3) rfl ?_
 refine xk (WI h4) rfl ?_
 rintro _ _ ⟨rfl,rfl⟩
 refine BP ?_
 exact ⟨rfl,rfl⟩
theorem Rn {pa px n c:Nat} {A:Option Addr} {l:List Av} {s:List UInt8} {h0:AA} (h1:Az h0 ⟨pa,257,none⟩=some (AM px)) (hp0:Az h0 ⟨px,0,none⟩=some (.slice A n c)) (hr:Rd h0 A (Bf l)) (hl:l.length=n) (hM:FC l) (hs:s.length≤1000):
  AG Tryz.prog 60 [AM pa,AU s] h0 fun v h'=>(∃k,v=nV k∧k≤(Bw l).length+38+s.length)∧AV h0 h':=by
 have hdl:=Fz hM.ok
 have hn:=hM.len
 have st:=St.start h0
 refine Ac Tryz.func60 rfl fun _=>Aj ?_
 refine xl (h1) rfl ?_
 refine xk (XF hp0 hr hl hM) rfl ?_
 rintro _ hp2 ⟨rfl,hx2⟩
 replace st:=st.ext hx2
 refine AP ?_
 refine xl (Bz st.low h1) rfl (AC ?_)
 refine xk (Q9 (s:=s) (Bz st.low hp0) (hr.ext st.low) hl hM) rfl ?_
 rintro _ hp3 ⟨m,b,rfl,_,_,hx3⟩
 replace st:=st.ext hx3
 refine AF ?_
 refine xn st fun p6 hp st=> ?_
 refine xw (us:=AY m) st 0 (Cl _) fun hp st=> ?_
 simp only [z0]at st
 refine AO ?_
 refine C6 rfl (fun h=> ?_) (fun h=> ?_)
 ·refine AJ ?_
  refine xa (CH (m:=18) rfl rfl (by simp only [AI];omega)) (Aj ?_)
  exact ⟨⟨_,rfl,by omega⟩,st.low⟩
 ·refine AO ?_
  exact ⟨⟨_,rfl,by omega⟩,st.low⟩
end Go.Bn
end

section
namespace Go.Bn
open Go Proofs
theorem RT {B pa px ps p cap S id en wn m c dir:Nat} {A:Option Addr} {w:Value} {b:List UInt8} {so s:AQ} {l0 l:List AS} {f:Fs} {F:List AE} {h0:AA} (st0:St B h0 h0 (B9 pa px ps p cap id en s false true w (mems l) f F)) (hI:SI f S cap id wn so s l0 l) (hen:1024+(AX l).length=en) (hs:s.seq<100000) (hw:wn+S≤1000000)
  (hr:∀h' rs,St B h0 h' (rs++F)→Rd h' A (b.map AN)) (hl:b.length=m) (hmc:m≤c) (hfit:en+m+dir≤2097152) (hS:Ba (en+m)≤S):
  AG Tryz.prog 59 [AM pa,.slice A m c,nV dir] h0 fun v h'=>(v=nV 0∧∃so' s' f1 d1,SI f1 S cap id (wn+S) so' s' l0 l∧s'.cl=false∧s'.seq≤s.seq+1∧f1.quiet=f.quiet∧f1.dk[id]? =some d1∧DI d1 so' s' l0 l∧St B h0 h' (B9 pa px ps p cap id (en+m) s' false true w (mems l) (f1.setD id (d1.write en b)) F))∨
   (v=nV 10∧f.quiet=false∧∃f' s',DV f' [l0]∧St B h0 h' (B9 pa px ps p cap id en s' false true w (mems l) f' F)):=by
 have st:=st0
 refine Bg Tryz.func59 rfl fun _=>BP ?_
 refine xl (st.cell 0 (i:=256) rfl (Fx _ _ _)) rfl (AB ?_)
 refine xk (WG (F:=pt pa 75 (Cj (AM ps) (AM px) true)::pt px 181 [w]::CJ w (mems l)::F) (st.here.sel 5 [3,4,0,1,2]) hI hen hs hw (fun h' rs s=>K1 s) (fun h' rs s=>hr h' (rs++[_,_,_]) (by rw [z8];exact s)) hl hmc hfit hS) rfl ?_
 refine fun v hp1 hh=>hh.elim (fun hh=> ?_) (fun hh=> ?_)
 ·obtain ⟨rfl,so1,s1,f1,d1,hSI1,hcl,hsq,hq1,hd1,hDI1,st2⟩:=hh
  replace st:=(st.trans st2).sel 5 [2,3,4,0,1]
  simp only [BU,BV,An]at st
  refine Bq ?_
  refine xl (st.cell 0 (i:=256) rfl (Fx _ _ _)) rfl (AB ?_)
  refine xk (el (n:=m) (st.here.sel 4 [3,0,1,2]) hcl (by omega)) rfl ?_
  rintro _ hp3 ⟨rfl,st3⟩
  replace st:=(st.trans st3).sel 4 [1,2,3,0]
  simp only [BU,BV,An]at st
  refine AL ?_
  exact .inl ⟨rfl,so1,s1,f1,d1,hSI1,hcl,hsq,hq1,hd1,hDI1,st⟩
 ·obtain ⟨rfl,hq,f1,s1,hg,st2⟩:=hh
  replace st:=(st.trans st2).sel 5 [2,3,4,0,1]
  simp only [BU,BV,An]at st
  refine Bq ?_
  exact .inr ⟨rfl,hq,f1,s1,hg,st⟩
theorem Re {tp n c a:Nat} {A:Option Addr} {e:AS} {h0:AA} (ht:CN h0 tp) (hr:Rd h0 A (e.rb.map AN)) (hl:e.rb.length=n) (hm:n≤1048576) (hnc:n≤c) (hok:e.ok) (ha:a≤1073741824):
  AG Tryz.prog 62 [AM tp,.slice A n c,nV a] h0 fun v h'=>v= .agg (AY (Cc (a,e))).toArray∧AV h0 h':=by
 have st:=St.start h0
 have hA:At e.rb 0 e.rb:=fun i hi=>by rw [Nat.zero_add]
 have hM0:Cc (0,e)=⟨e.name,0,0+(22+e.name.length),e.area.length,e.data.length,CM e.area,e.meth⟩:=rfl
 have hMM:Cc (a,e)=⟨e.name,a,a+(22+e.name.length),e.area.length,e.data.length,CM e.area,e.meth⟩:=rfl
 have htk:=fun {h:AA} (hx:AV h0 h)=>Vh (p:=0) (ht.ext hx) (hr.ext hx) hl (by omega) hnc hA hok
 have hnl:=hok.hn.1
 rw [hM0]at htk
 rw [hMM]
 obtain ⟨nm,hnm⟩:∃x,e.name=x:=⟨_,rfl⟩
 obtain ⟨al,hal⟩:∃x,e.area.length=x:=⟨_,rfl⟩
 obtain ⟨sz,hsz⟩:∃x,e.data.length=x:=⟨_,rfl⟩
 obtain ⟨sm,hsm⟩:∃x,CM e.area=x:=⟨_,rfl⟩
 obtain ⟨mt,hmt⟩:∃x,e.meth=x:=⟨_,rfl⟩
 obtain ⟨rl,hrl⟩:∃x,0+e.rb.length=x:=⟨_,rfl⟩
 rw [hnm,hal,hsz,hsm,hmt,hrl]at htk
 rw [hnm,hal,hsz,hsm,hmt]
 rw [hnm]at hnl
 clear hM0 hMM hA hnm hal hsz hsm hmt hrl
 refine Bg Tryz.func62 rfl fun _=>AB ?_
 refine xn st fun p6 hp st=>AH ?_
 refine xk (htk st.low) rfl ?_
 rintro _ hp2 ⟨rfl,hx2⟩
 replace st:=st.ext hx2
 refine AF ?_
 refine xn st fun p7 hp st=> ?_
 refine xw (us:=EX ⟨nm,0,0+(22+nm.length),al,sz,sm,mt⟩ rl) st 0 (Ir _ _) fun hp st=> ?_
 simp only [z0]at st
 refine AH ?_
 refine xa (Ai (vs:=AY ⟨nm,0,0+(22+nm.length),al,sz,sm,mt⟩) (st.part 0 1 [nV 1] (AY ⟨nm,0,0+(22+nm.length),al,sz,sm,mt⟩) [nV rl] rfl rfl) rfl rfl rfl rfl) ?_
 refine xn st fun p9 hp st=> ?_
 refine xw (us:=AY ⟨nm,0,0+(22+nm.length),al,sz,sm,mt⟩) st 0 (Cl _) fun hp st=> ?_
 simp only [z0]at st
 refine AH ?_
 refine xc st 0 2 ?_
 refine AC ?_
 refine xa (CH (m:=0+(22+nm.length)) rfl rfl (by simp only [AI];omega)) ?_
 rw [show 0+(22+nm.length)+a=a+(22+nm.length) by omega]
 refine AC ?_
 refine xj st 0 fun hp st=> ?_
 simp only [z0,z1]at st
 refine AC ?_
 refine xj st 0 fun hp st=> ?_
 simp only [z0,z1]at st
 replace st:St h0.size h0 hp (pt p9 92 (AY ⟨nm,a,a+(22+nm.length),al,sz,sm,mt⟩)::_):=st
 refine AF ?_
 refine xa (Ai (vs:=AY ⟨nm,a,a+(22+nm.length),al,sz,sm,mt⟩) (st.cells 0 rfl) rfl rfl rfl rfl) ?_
 refine xw (us:=AY ⟨nm,a,a+(22+nm.length),al,sz,sm,mt⟩) st 2 (Cl _) fun hp st=> ?_
 simp only [z0,z1]at st
 refine AC ?_
 refine Af (.cons (Ax (vs:=AY ⟨nm,a,a+(22+nm.length),al,sz,sm,mt⟩) rfl rfl rfl (st.cells 2 rfl)) .nil) ?_
 exact ⟨rfl,st.low⟩
end Go.Bn
end

section
namespace Go.Bn
open Go Proofs
theorem AS.ok.rb_le {e:AS} (h:e.ok):e.rb.length≤86+e.data.length:=by
 have h1:=e.rb_len
 have h2:=h.hn.1
 have h3:e.area.length≤e.data.length:=by
  rcases P7 e.data e.lv with ⟨_,h⟩ | ⟨_,h⟩
  ·show (EV e.data e.lv).2.length≤_;rw [h];exact Nat.le_refl _
  ·show (EV e.data e.lv).2.length≤_;omega
 omega
theorem Xs {B pa px ps p cap S id en wn n c:Nat} {lv:Int} {A:Option Addr} {w:Value} {nm b:List UInt8} {so s:AQ} {l0 l:List AS} {f:Fs} {F:List AE} {h0:AA} (st0:St B h0 h0 (B9 pa px ps p cap id en s false true w (mems l) f F)) (hI:SI f S cap id wn so s l0 l) (hL:B4 l) (hen:1024+(AX l).length=en) (hs:s.seq<100000) (hw:wn+2*S≤1000000)
  (hr:Rd h0 A (b.map AN)) (hl:b.length=n) (hb:n≤2000) (hln:l.length<100) (hsz:en+2200+(l.length+2)*82≤512*S):
  AG Tryz.prog 31 [AM pa,AU nm,.slice A n c,.int .i64 lv] h0 fun v h'=>(v=nV 0∧DU nm∧∃so' s' f' w',SI f' S cap id (wn+2*S) so' s' l0 (l++[⟨nm,b,lv⟩])∧s'.seq≤s.seq+1∧f'.quiet=f.quiet∧St B h0 h' (B9 pa px ps p cap id (en+(AS.rb ⟨nm,b,lv⟩).length) s' false true w' (mems (l++[⟨nm,b,lv⟩])) f' F))∨
   (∃k,v=nV k∧0<k∧(DU nm→f.quiet=false)∧∃f' s',DV f' [l0]∧St B h0 h' (B9 pa px ps p cap id en s' false true w (mems l) f' F)):=by
 have st:=st0
 obtain ⟨hM,hMl⟩:=hL.mems
 have hdl:=Fz hM.ok
 have hS1:=hI.S
 have hml:(mems l).length*82≤l.length*82:=Nat.mul_le_mul_right _ hMl
 obtain ⟨A1,n1,c1,rfl,hlen1,hnc1,_,_⟩:=st.row 2 rfl
 rw [CX]at hlen1
 obtain ⟨e,he⟩:∃e,AS.mk nm b lv=e:=⟨_,rfl⟩
 rw [he]
 refine Gx Tryz.func31 rfl fun _=>AP ?_
 refine xk (Kz (st.cell 0 (i:=259) rfl (Fy _ _ _)) (st.cell 0 (i:=258) rfl (Hy _ _ _)) (st.cell 0 (i:=256) rfl (Fx _ _ _)) (st.cell 3 (i:=9) rfl rfl)) rfl ?_
 rintro _ _ ⟨rfl,rfl⟩
 refine EY ?_
 refine xk (Vg (lv:=lv) (name:=nm) (Ib st 0 rfl) hr hl hb) rfl ?_
 refine fun v hp1 hh=>hh.symm.elim (fun hh=> ?_) (fun hh=> ?_)
 ·obtain ⟨hn,v2,rfl,st2⟩:=hh
  rw [he]at st2
  replace st:=st.join st2
  simp only [z5,z4]at st
  obtain ⟨A2,n2,c2,rfl,hlen2,hnc2,_,_⟩:=st.row 0 rfl
  rw [z3,zf]at hlen2
  have heo:e.ok:=by rw [←he];exact ⟨hn,by simp only;omega⟩
  have hen1:e.name=nm:=by rw [←he]
  have hrb:=heo.rb_le
  have hed:e.data.length=n:=by rw [←he];exact hl
  have hnl:=hn.1
  have hsN:Ba (en+n2)≤S:=by unfold Ba;omega
  refine Hp ?_
  refine xl (st.cell 1 (i:=257) rfl (HB _ _ _)) rfl (AC ?_)
  refine xk (RA (st.cell 2 (i:=0) rfl rfl) (st.rdS 3 rfl).2 (by omega) hM (by omega)) rfl ?_
  rintro _ hp3 ⟨rfl,hx3⟩
  replace st:=st.ext hx3
  refine Bu ?_
  refine xl (st.cell 1 (i:=256) rfl (Fx _ _ _)) rfl ?_
  refine xk (ek (st.cell 4 (i:=4) rfl rfl)) rfl ?_
  rintro _ _ ⟨rfl,rfl⟩
  refine Aj ?_
  refine xk (Rn (st.cell 1 (i:=257) rfl (HB _ _ _)) (st.cell 2 (i:=0) rfl rfl) (st.rdS 3 rfl).2 (by omega) hM (by omega)) rfl ?_
  rintro _ hp5 ⟨⟨k,rfl,hk⟩,hx5⟩
  replace st:=st.ext hx5
  refine xk (RT (F:=row 5 1 (.slice A2 n2 c2) (e.rb.map AN)::F) (st.here.sel 6 [1,2,3,4,5,0]) hI hen hs (by omega) (fun h' rs s=>s.rdF) hlen2 hnc2 (by omega) hsN) rfl ?_
  refine fun v hp1 hh=>hh.elim (fun hh=> ?_) (fun hh=> ?_)
  ·obtain ⟨rfl,so1,s1,f1,d1,hSI1,hcl,hsq,hq1,hd1,hDI1,st2⟩:=hh
   replace st:=st.trans st2
   refine BP ?_
   refine GK ((Ck [(9,.grow)])) [0,1,2,3,4,5,6,7,8,9,10,11] (by kernel_rfl) (by kernel_rfl) rfl (AF ?_)
   refine xl (st.cell 0 (i:=257) rfl (HB _ _ _)) rfl (AH ?_)
   refine BW (CT (Re (a:=en) (Ib st 0 rfl) (st.rdS 5 rfl).2 hlen2 (by omega) hnc2 heo (by omega)) rfl (by kernel_rfl)) rfl rfl rfl (fun _ _ h=>h.2) ?_
   rintro _ hp7 ⟨rfl,hx7⟩
   replace st:=st.ext hx7
   refine xk (g0 (st.here.sel 6 [1,2,0,3,4,5]) hM (by omega) (heo.mem_ok (p:=en) ⟨by omega,by omega⟩)) rfl ?_
   rintro _ hp8 ⟨rfl,w',st8⟩
   replace st:=(st.trans st8).sel 6 [2,0,1,3,4]
   simp only [BU,BV,An]at st
   refine AF ?_
   have hmm:=NV l e
   rw [hen]at hmm
   rw [←hmm,hlen2.symm]at st
   have hd1S:=(hSI1.fit.dk d1 (List.mem_of_getElem? hd1)).1
   have hlay:=hDI1.lay hcl e
   rw [hen]at hlay
   have hww:=Dk.write_wait d1 en e.rb
   have hwl:=hSI1.wl d1 hd1
   rw [hlen2]at hww
   exact .inl ⟨rfl,hn,so1,s1,_,w',hSI1.setD (w':=wn+2*S) hlay (Dk.write_le hDI1.ok _ _ hd1S (by rw [hlen2];exact hsN)) (by omega) (by omega),hsq,hq1,st⟩
  ·obtain ⟨rfl,hq,f1,s1,hg,st2⟩:=hh
   replace st:=(st.trans st2).sel 6 [0,1,2,3,4]
   simp only [BU,BV,An]at st
   refine Bq ?_
   exact .inr ⟨10,rfl,by omega,fun _=>hq,f1,s1,hg,st⟩
 ·obtain ⟨hn,rfl,hx2⟩:=hh
  replace st:=st.ext hx2
  refine HQ ?_
  exact .inr ⟨6,rfl,by omega,fun h=>absurd h hn,f,s,hI.set.good,st⟩
end Go.Bn
end

section
namespace Go.Bn
open Go Proofs
theorem Rm {B pa px ps p cap S id en wn:Nat} {w:Value} {so s:AQ} {l0 l:List AS} {f:Fs} {F:List AE} {h0:AA} (st0:St B h0 h0 (B9 pa px ps p cap id en s false true w (mems l) f F)) (hI:SI f S cap id wn so s l0 l) (hL:B4 l) (hen:1024+(AX l).length=en) (hs:s.seq<99999) (hw:wn+S≤1000000) (hS:Ba (en+Em l)≤S):
  AG Tryz.prog 37 [AM pa] h0 fun v h'=>(v=nV 0∧∃so' s' f',SI f' S cap id (wn+S) so' s' l l∧s'.seq≤s.seq+1∧f'.quiet=f.quiet∧St B h0 h' (B9 pa px ps p cap id en s' false true w (mems l) f' F))∨
   (v=nV 10∧f.quiet=false∧∃f' s' po,DV f' [l0,l]∧St B h0 h' (B9 pa px ps p cap id en s' po true w (mems l) f' F)):=by
 have st:=st0
 obtain ⟨hM,hMl⟩:=hL.mems
 have hMn:=hM.len
 obtain ⟨A1,n1,c1,rfl,hlen1,hnc1,_,_⟩:=st.row 2 rfl
 rw [CX]at hlen1
 refine BE Tryz.func37 rfl fun _=>AP ?_
 refine xk (Kz (st.cell 0 (i:=259) rfl (Fy _ _ _)) (st.cell 0 (i:=258) rfl (Hy _ _ _)) (st.cell 0 (i:=256) rfl (Fx _ _ _)) (st.cell 3 (i:=9) rfl rfl)) rfl ?_
 rintro _ _ ⟨rfl,rfl⟩
 refine BP ?_
 refine GK ((Ck [(8,.grow)])) [0,1,2,3,4,5,6,7,8,9,10] (by kernel_rfl) (by kernel_rfl) rfl (AF ?_)
 refine xl (st.cell 0 (i:=256) rfl (Fx _ _ _)) rfl (AF ?_)
 refine xl (st.cell 0 (i:=257) rfl (HB _ _ _)) rfl ?_
 refine BW (CT (XE (st.cell 1 (i:=0) rfl rfl) (st.rdS 2 rfl).2 (by omega) (by omega)) rfl (by kernel_rfl)) rfl rfl rfl (fun _ _ h=>h.low) ?_
 rintro w2 hp2 st2
 replace st:=st.join st2
 simp only [z5,z4]at st
 obtain ⟨A2,n2,c2,rfl,hlen2,hnc2,_,_⟩:=st.row 0 rfl
 rw [CX]at hlen2
 refine xk (ej (F:=CJ (.slice A2 n2 c2) (mems l)::pt pa 75 (Cj (AM ps) (AM px) true)::pt px 181 [.slice A1 n1 c1]::CJ (.slice A1 n1 c1) (mems l)::F) (st.here.sel 6 [4,5,0,1,2,3]) hI hen hs hw (fun h' rs s=>K1 (rs:=rs++[_]) (by rw [z8];exact s)) (fun h' rs s=>s.rdF) (by omega) hL hS) rfl ?_
 refine fun v hp1 hh=>hh.elim (fun hh=> ?_) (fun hh=> ?_)
 ·obtain ⟨rfl,so1,s1,f1,hSI1,hsq,hq1,st2⟩:=hh
  replace st:=(st.trans st2).sel 6 [3,4,5,0,1]
  simp only [BU,BV,An]at st
  refine AF ?_
  exact .inl ⟨rfl,so1,s1,f1,hSI1,hsq,hq1,st⟩
 ·obtain ⟨rfl,hq,f1,s1,po,hg,st2⟩:=hh
  replace st:=(st.trans st2).sel 6 [3,4,5,0,1]
  simp only [BU,BV,An]at st
  refine AF ?_
  exact .inr ⟨rfl,hq,f1,s1,po,hg,st⟩
theorem Xc {B pa px ps p cap S id en wn:Nat} {w:Value} {so s:AQ} {l0 l:List AS} {f:Fs} {F:List AE} {h0:AA} (st0:St B h0 h0 (B9 pa px ps p cap id en s false true w (mems l) f F)) (hI:SI f S cap id wn so s l0 l) (hL:B4 l) (hen:1024+(AX l).length=en) (hs:s.seq<99999) (hw:wn+S≤1000000) (hS:Ba (en+Em l)≤S):
  AG Tryz.prog 39 [AM pa] h0 fun v h'=>(v=nV 0∧∃f' s',DV f' [l]∧St B h0 h' (B9 pa px ps p cap id en s' false false w (mems l) f' F))∨
   (v=nV 10∧f.quiet=false∧∃f' s' po,DV f' [l0,l]∧St B h0 h' (B9 pa px ps p cap id en s' po false w (mems l) f' F)):=by
 have st:=st0
 refine BE Tryz.func39 rfl fun _=>AP ?_
 refine xk (JA (st.cell 0 (i:=259) rfl (Fy _ _ _))) rfl ?_
 rintro _ _ ⟨rfl,rfl⟩
 refine Cp ?_
 refine xl (st.cell 0 (i:=258) rfl (Hy _ _ _)) rfl (AO ?_)
 refine xk (Rm st.here hI hL hen hs hw hS) rfl ?_
 refine fun v hp1 hh=>hh.elim (fun hh=> ?_) (fun hh=> ?_)
 ·obtain ⟨rfl,so1,s1,f1,hSI1,hsq,hq1,st2⟩:=hh
  replace st:=st.trans st2
  refine AO ?_
  refine BT (FE (i:=259) st 0 rfl rfl rfl (J7 _ _ _ (by omega)) rfl rfl) rfl rfl fun _ hp st=> ?_
  simp only [z0,z1,OY]at st
  refine AO ?_
  exact .inl ⟨rfl,f1,s1,hSI1.set.good,st⟩
 ·obtain ⟨rfl,hq,f1,s1,po,hg,st2⟩:=hh
  replace st:=st.trans st2
  refine AO ?_
  refine BT (FE (i:=259) st 0 rfl rfl rfl (J7 _ _ _ (by omega)) rfl rfl) rfl rfl fun _ hp st=> ?_
  simp only [z0,z1,OY]at st
  refine AO ?_
  exact .inr ⟨rfl,hq,f1,s1,po,hg,st⟩
theorem Oa {pa:Nat} {h0:AA} (h1:Az h0 ⟨pa,259,none⟩=some (.bool true)) (h2:Az h0 ⟨pa,258,none⟩=some (.pointer none)):AG Tryz.prog 66 [AM pa] h0 fun v h'=>v=nV 15∧h0=h':=by
 refine BE Tryz.func66 rfl fun _=>AP ?_
 refine xk (JA h1) rfl ?_
 rintro _ _ ⟨rfl,rfl⟩
 refine Cp ?_
 refine xl (h2) rfl (AP ?_)
 exact ⟨rfl,rfl⟩
theorem X6 {pa n c:Nat} {A:Option Addr} {h0:AA} (h1:Az h0 ⟨pa,259,none⟩=some (.bool true)) (h2:Az h0 ⟨pa,258,none⟩=some (.pointer none)):AG Tryz.prog 33 [AM pa,.slice A n c] h0 fun v h'=>v=nV 15∧h0=h':=by
 refine Ac Tryz.func33 rfl fun _=>AP ?_
 refine xk (Oa h1 h2) rfl ?_
 rintro _ _ ⟨rfl,rfl⟩
 refine Bq ?_
 exact ⟨rfl,rfl⟩
theorem Xj {pa:Nat} {h0:AA} (h1:Az h0 ⟨pa,259,none⟩=some (.bool true)) (h2:Az h0 ⟨pa,258,none⟩=some (.pointer none)):AG Tryz.prog 34 [AM pa] h0 fun v h'=>v=nV 15∧h0=h':=by
 refine BE Tryz.func34 rfl fun _=>AP ?_
 refine xk (Oa h1 h2) rfl ?_
 rintro _ _ ⟨rfl,rfl⟩
 refine Bq ?_
 exact ⟨rfl,rfl⟩
theorem XY {pa:Nat} {h0:AA} (h1:Az h0 ⟨pa,259,none⟩=some (.bool true)) (h2:Az h0 ⟨pa,258,none⟩=some (.pointer none)):AG Tryz.prog 35 [AM pa] h0 fun v h'=>v=nV 15∧h0=h':=by
 refine BE Tryz.func35 rfl fun _=>AO ?_
 refine xk (Oa h1 h2) rfl ?_
 rintro _ _ ⟨rfl,rfl⟩
 refine Bb ?_
 exact ⟨rfl,rfl⟩
end Go.Bn
end

section
namespace Go.Bn
open Go Proofs
@[reducible] def afS (pa ps p cap id en:Nat) (s:AQ) (po:Bool) (cs:List Value) (f:Fs) (F:List AE):List AE:=pt pa 75 cs::pt ps 100 (DC p pa id en s po)::BF p cap f::F
def HW (ps:Nat) (cs:List Value):Prop:=cs[256]? =some (AM ps)∧cs[259]? =some (.bool true)
theorem Gh (ps:Nat) (vx:Value):HW ps (Cj (AM ps) vx true):=⟨Fx _ _ _,Fy _ _ _⟩
theorem Xi {ps:Nat} {vx x:Value}:HW ps ((Cj (AM ps) vx true).set 258 x):=by
 refine ⟨?_,?_⟩
 ·rw [List.getElem?_set_ne (by omega)];exact Fx _ _ _
 ·rw [List.getElem?_set_ne (by omega)];exact Fy _ _ _
theorem St.afS {B pa px ps p cap id en:Nat} {s:AQ} {po:Bool} {w:Value} {l:List Av} {f:Fs} {F:List AE} {h0 hp:AA} (st:St B h0 hp (B9 pa px ps p cap id en s po true w l f F)):∃cs,HW ps cs∧St B h0 hp (Bn.afS pa ps p cap id en s po cs f F):=⟨_,Gh _ _,st.sel 5 [0,3,4]⟩
theorem ZI {l:List Av} {m:Av} (h:m∈l):18+m.name.length≤(Bw l).length:=by
 obtain ⟨s,r,rfl⟩:=List.append_of_mem h
 simp only [Bw,List.flatMap_append,zt,z2,KF]
 omega
theorem SI.goodW {f:Fs} {S cap id w en:Nat} {so s:AQ} {l0 l:List AS} {d:Dk} (h:SI f S cap id w so s l0 l) (hD:DI d so s l0 l) (hc:s.cl=false) (hen:1024+(AX l).length≤en) (b:List UInt8):DV (f.setD id (d.write en b)) [l0]:=h.set.may (hD.write hc en b hen).may
theorem Xo {pa ps:Nat} {po:Bool} {h0:AA} (h1:Az h0 ⟨pa,259,none⟩=some (.bool true)) (h3:Az h0 ⟨pa,256,none⟩=some (AM ps)) (h4:Az h0 ⟨ps,9,none⟩=some (.bool po)):AG Tryz.prog 14 [AM pa] h0 fun v h'=>(∃b,v= .bool b)∧h0=h':=by
 refine BE Tryz.func14 rfl fun _=>AO ?_
 refine xk (JA h1) rfl ?_
 rintro _ _ ⟨rfl,rfl⟩
 refine AH ?_
 refine xl (h3) rfl ?_
 refine xk (WI h4) rfl ?_
 rintro _ _ ⟨rfl,rfl⟩
 refine AJ ?_
 exact ⟨⟨_,rfl⟩,rfl⟩
theorem Xh {B pa px ps p cap S id en wn:Nat} {w:Value} {nm:List UInt8} {so s:AQ} {l0 l:List AS} {f:Fs} {F:List AE} {h0:AA} (st0:St B h0 h0 (B9 pa px ps p cap id en s false true w (mems l) f F)) (hI:SI f S cap id wn so s l0 l) (hL:B4 l) (hen:1024+(AX l).length=en) (hs:s.seq<100000) (hw:wn+2*S≤1000000) (hsz:en+2200+(l.length+2)*82≤512*S):
  AG Tryz.prog 36 [AM pa,AU nm] h0 fun v h'=>(∃k,v=nV k)∧∃f' en' s' cs,DV f' [l0]∧HW ps cs∧St B h0 h' (afS pa ps p cap id en' s' false cs f' F):=by
 have st:=st0
 obtain ⟨hM,hMl⟩:=hL.mems
 have hdl:=Fz hM.ok
 have hS1:=hI.S
 have hml:(mems l).length*82≤l.length*82:=Nat.mul_le_mul_right _ hMl
 obtain ⟨A1,n1,c1,rfl,hlen1,hnc1,_,_⟩:=st.row 2 rfl
 rw [CX]at hlen1
 refine Ac Tryz.func36 rfl fun _=>AP ?_
 refine xk (Kz (st.cell 0 (i:=259) rfl (Fy _ _ _)) (st.cell 0 (i:=258) rfl (Hy _ _ _)) (st.cell 0 (i:=256) rfl (Fx _ _ _)) (st.cell 3 (i:=9) rfl rfl)) rfl ?_
 rintro _ _ ⟨rfl,rfl⟩
 refine Cp ?_
 refine xl (st.cell 0 (i:=257) rfl (HB _ _ _)) rfl (AC ?_)
 refine xk (Q9 (s:=nm) (st.cell 1 (i:=0) rfl rfl) (st.rdS 2 rfl).2 (by omega) hM) rfl ?_
 rintro _ hp3 ⟨m,b,rfl,hbt,_,hx3⟩
 replace st:=st.ext hx3
 refine AF ?_
 refine xn st fun p6 hp st=> ?_
 refine xw (us:=AY m) st 0 (Cl _) fun hp st=> ?_
 simp only [z0]at st
 refine AO ?_
 refine C6 rfl (fun h=> ?_) (fun h=> ?_)
 ·refine AH ?_
  obtain ⟨cs,hc,st⟩:=st.tail.afS
  exact ⟨⟨_,rfl⟩,f,en,s,cs,hI.set.good,hc,st⟩
 ·obtain ⟨hmm,hmn⟩:=hbt (by simpa using h)
  have hno:=(hM.ok m hmm).hn
  have hdm:=ZI hmm
  rw [hmn]at hno hdm
  have hnl:=hno.1
  refine AO ?_
  refine xk (fp (Ib st 1 rfl) hno) rfl ?_
  rintro _ hp4 ⟨w1,b1,rfl,hb1,st4⟩
  replace st:=st.join st4
  simp only [z5,z4]at st
  obtain ⟨A2,n2,c2,rfl,hlen2,hnc2,_,_⟩:=st.row 0 rfl
  rw [z3,zf]at hlen2
  have hsN:Ba (en+n2)≤S:=by unfold Ba;omega
  refine Bq ?_
  refine xl (st.cell 2 (i:=257) rfl (HB _ _ _)) rfl ?_
  refine xk (XF (st.cell 3 (i:=0) rfl rfl) (st.rdS 4 rfl).2 (by omega) hM) rfl ?_
  rintro _ hp5 ⟨rfl,hx5⟩
  replace st:=st.ext hx5
  refine xa (Bk (n:=18) rfl rfl (by omega) (by simp only [AI];omega)) (AB ?_)
  refine xa (Bk rfl rfl (by omega) (by simp only [AI];omega)) ?_
  refine xk (RT (F:=row 5 1 (.slice A2 n2 c2) (b1.map AN)::F) (st.here.sel 7 [2,3,4,5,6,0]) hI hen hs (by omega) (fun h' rs s=>s.rdF) hlen2 hnc2 (by omega) hsN) rfl ?_
  refine fun v hp1 hh=>hh.elim (fun hh=> ?_) (fun hh=> ?_)
  ·obtain ⟨rfl,so1,s1,f1,d1,hSI1,hcl,hsq,hq1,hd1,hDI1,st2⟩:=hh
   replace st:=(st.trans st2).sel 6 [0,1,2,3,4]
   simp only [BU,BV,An]at st
   have hgd:=hSI1.goodW hDI1 hcl (Nat.le_of_eq hen) b1
   refine Bq ?_
   refine xl (st.cell 0 (i:=257) rfl (HB _ _ _)) rfl (AC ?_)
   refine xk (gt (s:=nm) (st.here.sel 5 [1,2,0,3,4]) hM) rfl ?_
   rintro _ hp7 ⟨⟨b7,rfl⟩,st7⟩
   replace st:=st.trans st7
   refine AL ?_
   exact ⟨⟨_,rfl⟩,_,_,s1,_,hgd,Gh _ _,st⟩
  ·obtain ⟨rfl,hq,f1,s1,hg,st2⟩:=hh
   replace st:=(st.trans st2).sel 6 [0,1,2,3,4]
   simp only [BU,BV,An]at st
   refine Bq ?_
   obtain ⟨cs,hc,st⟩:=st.afS
   exact ⟨⟨_,rfl⟩,f1,en,s1,cs,hg,hc,st⟩
theorem XZ {B pa px ps p cap S id en wn:Nat} {w:Value} {nm:List UInt8} {so s:AQ} {l0 l:List AS} {f:Fs} {F:List AE} {h0:AA} (st0:St B h0 h0 (B9 pa px ps p cap id en s false true w (mems l) f F)) (hI:SI f S cap id wn so s l0 l) (hL:B4 l) (hen:1024+(AX l).length=en) (hs:s.seq<100000) (hw:wn+2*S≤1000000) (hsz:en+2200+(l.length+2)*82≤512*S):
  AG Tryz.prog 32 [AM pa,AU nm] h0 fun v h'=>(∃k,v=nV k)∧∃f' en' s' cs,DV f' [l0]∧HW ps cs∧St B h0 h' (afS pa ps p cap id en' s' false cs f' F):=by
 have st:=st0
 obtain ⟨hM,hMl⟩:=hL.mems
 have hdl:=Fz hM.ok
 have hS1:=hI.S
 have hll:=hL.len
 have hml:(mems l).length*82≤l.length*82:=Nat.mul_le_mul_right _ hMl
 obtain ⟨A1,n1,c1,rfl,hlen1,hnc1,_,_⟩:=st.row 2 rfl
 rw [CX]at hlen1
 refine Ac Tryz.func32 rfl fun _=>AP ?_
 refine xk (Kz (st.cell 0 (i:=259) rfl (Fy _ _ _)) (st.cell 0 (i:=258) rfl (Hy _ _ _)) (st.cell 0 (i:=256) rfl (Fx _ _ _)) (st.cell 3 (i:=9) rfl rfl)) rfl ?_
 rintro _ _ ⟨rfl,rfl⟩
 refine Bq ?_
 refine xk (Ja nm _) rfl ?_
 rintro _ hp2 ⟨rfl,hx2⟩
 replace st:=st.ext hx2
 refine AF ?_
 refine C6 rfl (fun h=> ?_) (fun h=> ?_)
 ·refine AH ?_
  obtain ⟨cs,hc,st⟩:=st.afS
  exact ⟨⟨_,rfl⟩,f,en,s,cs,hI.set.good,hc,st⟩
 ·have hno:DU nm:=by simpa using h
  have hnl:=hno.1
  refine AH ?_
  refine xl (st.cell 0 (i:=257) rfl (HB _ _ _)) rfl (AC ?_)
  refine xk (RA (st.cell 1 (i:=0) rfl rfl) (st.rdS 2 rfl).2 (by omega) hM (by omega)) rfl ?_
  rintro _ hp3 ⟨rfl,hx3⟩
  replace st:=st.ext hx3
  refine By ?_
  refine xa (AZ (ps:=[(0,nV 2),(1,AU nm)]) (cs:=(Dy 2 nm 0 0 0).toArray) rfl (by kernel_rfl)) ?_
  refine xk (T4 (Ib st 0 rfl) ⟨hno,by omega,by omega,.inr (.inr ⟨rfl,rfl,rfl,rfl⟩)⟩) rfl ?_
  rintro _ hp4 ⟨w1,rfl,st4⟩
  replace st:=st.join st4
  simp only [z5,z4]at st
  obtain ⟨A2,n2,c2,rfl,hlen2,hnc2,_,_⟩:=st.row 0 rfl
  rw [z3,zf]at hlen2
  have hhl:=Ii 2 nm 0 0 0
  have hsN:Ba (en+n2)≤S:=by unfold Ba;omega
  refine AP ?_
  refine GK ((Ck [(7,.grow)])) [0,1,2,3,4,5,6,7,8,9,10] (by kernel_rfl) (by kernel_rfl) rfl (AF ?_)
  refine xl (st.cell 1 (i:=256) rfl (Fx _ _ _)) rfl (AF ?_)
  refine BW (CT (Rn (st.cell 1 (i:=257) rfl (HB _ _ _)) (st.cell 2 (i:=0) rfl rfl) (st.rdS 3 rfl).2 (by omega) hM (by omega)) rfl (by kernel_rfl)) rfl rfl rfl (fun _ _ h=>h.2) ?_
  rintro _ hp5 ⟨⟨k,rfl,hk⟩,hx5⟩
  replace st:=st.ext hx5
  refine xa (CH (n:=22) rfl rfl (by simp only [AI];omega)) ?_
  refine xk (WG (F:=row 5 1 (.slice A2 n2 c2) ((F3 2 nm 0 0 0).map AN)::pt pa 75 (Cj (AM ps) (AM px) true)::pt px 181 [.slice A1 n1 c1]::CJ (.slice A1 n1 c1) (mems l)::F) (st.here.sel 6 [4,5,0,1,2,3]) hI hen hs (by omega) (fun h' rs s=>K1 (rs:=rs++[_]) (by rw [z8];exact s)) (fun h' rs s=>s.rdF) hlen2 hnc2 (by omega) hsN) rfl ?_
  refine fun v hp1 hh=>hh.elim (fun hh=> ?_) (fun hh=> ?_)
  ·obtain ⟨rfl,so1,s1,f1,d1,hSI1,hcl,hsq,hq1,hd1,hDI1,st2⟩:=hh
   replace st:=(st.trans st2).sel 6 [3,0,1]
   simp only [BU,BV,An]at st
   have hgd:=hSI1.goodW hDI1 hcl (Nat.le_of_eq hen) (F3 2 nm 0 0 0)
   refine Cp ?_
   refine xa (AZ (ps:=[(0,AU nm),(2,nV n2),(3,.int .u32 4294967295)]) (cs:= #[AU nm,nV 0,nV n2,.int .u32 4294967295]) rfl rfl) ?_
   refine xv (Bv (cs:=[AU nm,nV 0,nV n2,.int .u32 4294967295]) rfl rfl) ?_
   rintro _ hp ⟨p9,rfl,hnew⟩
   replace st:=(st.new hnew).tail
   refine AB ?_
   refine BT (FE (i:=258) st 0 rfl rfl rfl (J7 _ _ _ (by omega)) rfl rfl) rfl rfl fun _ hp st=> ?_
   simp only [z0,z1]at st
   refine AL ?_
   exact ⟨⟨_,rfl⟩,_,_,s1,_,hgd,Xi,st⟩
  ·obtain ⟨rfl,hq,f1,s1,hg,st2⟩:=hh
   replace st:=(st.trans st2).sel 6 [3,0,1]
   simp only [BU,BV,An]at st
   refine Bq ?_
   exact ⟨⟨_,rfl⟩,f1,en,s1,_,hg,Gh _ _,st⟩
end Go.Bn
end

section
namespace Go.Bn
open Go Proofs
structure J5 (f:Fs) (id:Nat) (l:List AS):Prop where
  log:B4 l
  dk:∃d,f.dk[id]? =some d∧At d.now 1024 (AX l)∧1024+(AX l).length≤d.now.length
theorem SI.rd {f:Fs} {S cap id w:Nat} {so s:AQ} {l0 l:List AS} (h:SI f S cap id w so s l0 l) (hL:B4 l):J5 f id l:=by
 obtain ⟨d,h1,h2,_⟩:=h.dk
 exact ⟨hL,d,h1,h2.now,h2.fits⟩
theorem RU {B pa px ps p cap id en:Nat} {w:Value} {q:Nat×AS} {s:AQ} {ms:List Av} {l:List AS} {f:Fs} {F:List AE} {h0:AA} (st0:St B h0 h0 (B9 pa px ps p cap id en s false true w ms f F)) (hR:J5 f id l) (hq:q∈Cf l):
  AG Tryz.prog 52 [AM pa,.agg (AY (Cc q)).toArray] h0 fun v h'=>∃w,v=Al [w,nV 0]∧St h0.size h0 h' [row 5 1 w (q.2.data.map AN)]:=by
 obtain ⟨d,hd,hA,hfit⟩:=hR.dk
 obtain ⟨hqA,hq1,hq2,hq3⟩:=PK hA hq
 have hoe:=hR.log.ok _ hq3
 have hm2:=hoe.head_ok.m2.2
 have hAa:=VX hqA
 have hrl:=q.2.rb_len
 have hbk:=hoe.back
 have hff:=hR.log.fit
 have hMM:Cc q=⟨q.2.name,q.1,q.1+(22+q.2.name.length),q.2.area.length,q.2.data.length,CM q.2.area,q.2.meth⟩:=rfl
 rw [hMM]
 clear hMM
 obtain ⟨q1,e⟩:=q
 simp only at*
 obtain ⟨nm,hnm⟩:∃x,e.name=x:=⟨_,rfl⟩
 obtain ⟨ar,har⟩:∃x,e.area=x:=⟨_,rfl⟩
 obtain ⟨dt,hdt⟩:∃x,e.data=x:=⟨_,rfl⟩
 obtain ⟨mt,hmt⟩:∃x,e.meth=x:=⟨_,rfl⟩
 rw [hnm,har,hdt,hmt]
 rw [har,hdt,hmt]at hbk
 rw [har,hnm]at hrl
 rw [har]at hm2
 rw [hnm,har]at hAa
 obtain ⟨rl,hrl2⟩:∃x,e.rb.length=x:=⟨_,rfl⟩
 rw [hrl2]at hrl hq1
 clear hqA hoe hnm har hdt hmt hrl2 hq hq3
 obtain ⟨sm,hsm⟩:∃x,CM ar=x:=⟨_,rfl⟩
 rw [hsm]
 have st:=St.start h0
 refine Ac Tryz.func52 rfl fun _=>AB ?_
 refine xv (Bv (cs:=AY (⟨nm,q1,q1+(22+nm.length),ar.length,dt.length,sm,mt⟩)) rfl rfl) ?_
 rintro _ hp ⟨p3,rfl,hnew⟩
 have sta:=st0.ext hnew.1
 replace st:=st.new hnew
 refine AP ?_
 refine xl (sta.cell 0 (i:=256) rfl (Fx _ _ _)) rfl (AC ?_)
 refine xc st 0 2 ?_
 refine AC ?_
 refine xc st 0 3 ?_
 refine xk (ep (a:=q1+(22+nm.length)) (m:=ar.length) (sta.here.sel 5 [3,4]) hd (by omega)) rfl ?_
 rintro _ hp2 ⟨w1,rfl,st2⟩
 rw [hAa.eq]at st2
 replace sta:=sta.ext st2.low
 replace st:=st.join st2
 simp only [z5,z4]at st
 obtain ⟨A5,n5,c5,rfl,hlen5,hnc5,_,hrd5⟩:=st.row 0 rfl
 rw [z3,zf]at hlen5
 refine Bb ?_
 refine GK ((Ck [(4,.grow)])) [0,1,2,3,5,6,4,7,8] (by kernel_rfl) (by kernel_rfl) rfl (AH ?_)
 refine xc st 1 5 ?_
 refine BW (CT (Gb (Ib sta 0 rfl) hrd5 hlen5 (by omega)) rfl (by kernel_rfl)) rfl rfl rfl (fun _ _ h=>h.2▸BC.refl _ _) ?_
 rintro _ _ ⟨rfl,rfl⟩
 refine AC ?_
 refine AT (.bool false) (congrArg Value.bool (zu (fun e=>e (by rw [hsm])))) (AP ?_)
 refine xc st 1 6 ?_
 refine AB ?_
 refine xc st 1 4 ?_
 refine xk (SO hrd5 hlen5 (by omega) hnc5) rfl ?_
 rintro _ hp4 ⟨w,rfl,st4⟩
 rw [hbk]at st4
 refine AL ?_
 refine ⟨w,?_,(st.join st4).sel 3 [0]⟩
 rw [hbk];rfl
theorem OZ {B pa px ps p cap id en:Nat} {w:Value} {nm:List UInt8} {s:AQ} {l:List AS} {f:Fs} {F:List AE} {h0:AA} (st0:St B h0 h0 (B9 pa px ps p cap id en s false true w (mems l) f F)) (hL:B4 l):
  AG Tryz.prog 29 [AM pa,AU nm] h0 fun v h'=>(∃m k,v=Al [.agg (AY m).toArray,nV k]∧(k=0→m∈mems l))∧AV h0 h':=by
 obtain ⟨hM,hMl⟩:=hL.mems
 obtain ⟨A1,n1,c1,rfl,hlen1,hnc1,_,_⟩:=st0.row 2 rfl
 rw [CX]at hlen1
 have st:=St.start h0
 refine Ac Tryz.func29 rfl fun _=>AB ?_
 refine xv (CK rfl) ?_
 rintro _ hp ⟨p4,rfl,hnew⟩
 have sta:=st0.ext hnew.1
 replace st:=st.new hnew
 refine AL ?_
 refine xk (JA (sta.cell 0 (i:=259) rfl (Fy _ _ _))) rfl ?_
 rintro _ _ ⟨rfl,rfl⟩
 refine Bq ?_
 refine xl (sta.cell 0 (i:=257) rfl (HB _ _ _)) rfl (AC ?_)
 refine xk (Q9 (s:=nm) (sta.cell 1 (i:=0) rfl rfl) (sta.rdS 2 rfl).2 (by omega) hM) rfl ?_
 rintro _ hp3 ⟨m,b,rfl,hbt,_,hx3⟩
 replace st:=st.ext hx3
 refine AF ?_
 refine xv (CK rfl) ?_
 rintro _ hp ⟨p7,rfl,hnew⟩
 replace st:=st.new hnew
 refine xw (us:=AY m) st 0 (Cl _) fun hp st=> ?_
 simp only [z0]at st
 refine AP ?_
 refine C6 rfl (fun h=> ?_) (fun h=> ?_)
 ·refine AB ?_
  refine xa (AZ (ps:=[]) (cs:=(AY ⟨[],0,0,0,0,0,0⟩).toArray) rfl (by kernel_rfl)) ?_
  refine xw (us:=AY ⟨[],0,0,0,0,0,0⟩) st 1 (Cl _) fun hp st=> ?_
  simp only [z0,z1]at st
  refine AB ?_
  refine Af (.cons (Ax (vs:=AY ⟨[],0,0,0,0,0,0⟩) rfl rfl rfl (st.cells 1 rfl)) (.cons (.tmp rfl) .nil)) ?_
  exact ⟨⟨_,7,rfl,fun e=>absurd e (by decide)⟩,st.low⟩
 ·refine AF ?_
  refine xa (Ai (vs:=AY m) (st.cells 0 rfl) rfl rfl rfl rfl) ?_
  refine xw (us:=AY m) st 1 (Cl _) fun hp st=> ?_
  simp only [z0,z1]at st
  refine AB ?_
  refine Af (.cons (Ax (vs:=AY m) rfl rfl rfl (st.cells 1 rfl)) (.cons (.tmp rfl) .nil)) ?_
  exact ⟨⟨m,0,rfl,fun _=>(hbt (by simpa using h)).1⟩,st.low⟩
theorem Xk {B pa px ps p cap id en:Nat} {w:Value} {nm:List UInt8} {s:AQ} {l:List AS} {f:Fs} {F:List AE} {h0:AA} (st0:St B h0 h0 (B9 pa px ps p cap id en s false true w (mems l) f F)) (hR:J5 f id l):
  AG Tryz.prog 28 [AM pa,AU nm] h0 fun v h'=>(∃A n c k,v=Al [.slice A n c,nV k])∧AV h0 h':=by
 have st:=St.start h0
 refine Ac Tryz.func28 rfl fun _=>Aj ?_
 refine xk (OZ (nm:=nm) st0 hR.log) rfl ?_
 rintro _ hp1 ⟨⟨m,k,rfl,hk⟩,hx1⟩
 replace st:=st.ext hx1
 refine AF ?_
 refine xn st fun p6 hp st=> ?_
 refine xw (us:=AY m) st 0 (Cl _) fun hp st=> ?_
 simp only [z0]at st
 refine AP ?_
 refine AK rfl (fun h=> ?_) (fun h=> ?_)
 ·refine AO ?_
  exact ⟨⟨_,_,_,_,rfl⟩,st.low⟩
 ·obtain rfl:k=0:=by
   have:((k:Nat):Int)=0:=Classical.byContradiction fun e=>h e
   omega
  obtain ⟨q,hq,rfl,_⟩:=LW (hk rfl)
  refine AJ ?_
  refine xa (Ai (vs:=AY (Cc q)) (st.cells 0 rfl) rfl rfl rfl rfl) ?_
  refine xk (RU (st0.ext st.low).here hR hq) rfl ?_
  rintro _ hp2 ⟨w2,rfl,st2⟩
  obtain ⟨A5,n5,c5,rfl,_⟩:=st2.row 0 rfl
  replace st:=st.ext st2.low
  refine AL ?_
  exact ⟨⟨_,_,_,0,rfl⟩,st.low⟩
end Go.Bn
end

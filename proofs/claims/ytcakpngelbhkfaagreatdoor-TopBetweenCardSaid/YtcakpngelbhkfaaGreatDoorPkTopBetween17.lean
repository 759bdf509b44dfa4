/- Packed texts of a claim: what its theorem uses, joined. -/
import Derived.Test.YtcakpngelbhkfaaGreatDoorRows
import Derived.JoinedOf
import Derived.KernelRfl
import Derived.Test.YtcakpngelbhkfaaGreatDoorPkTopBetween16
set_option maxRecDepth 100000
set_option maxHeartbeats 4000000
set_option linter.unusedVariables false
set_option linter.unusedSimpArgs false
set_option linter.unusedSectionVars false
set_option linter.defProp false
section
namespace Go.Bn
open Go Proofs
@[reducible] def Gj (e:Nat) (vd vs vn vf:Value) (r po:Bool):Value:= .agg (Ce e vd vs vn vf r po).toArray
theorem Mc {q p cap:Nat} {f:Fs} {E:List AE}:Gd q (pt q 51 (BX p (.pointer none))::BF p cap f::E):=⟨p,cap,f,_,E,.refl _,.inl rfl⟩
theorem G9 {q pa px ps p cap id en:Nat} {w:Value} {s:AQ} {po:Bool} {l:List Av} {f:Fs} {E:List AE}:Gd q (pt q 51 (BX p (AM pa))::B9 pa px ps p cap id en s po true w l f E):=
 ⟨p,cap,f,AM pa,_,.cons _ (zb [_,_,_,_] [_] E),.inr ⟨pa,ps,id,en,s,po,_,_,rfl,.cons _ (zb [_,_] [_] E),Gh _ _⟩⟩
theorem Xa {q pa ps p cap id en:Nat} {va:Value} {s:AQ} {po:Bool} {cs:List Value} {f:Fs} {E:List AE} (h:va= .pointer none∨va=AM pa∧HW ps cs):Gd q (pt q 51 (BX p va)::afS pa ps p cap id en s po cs f E):=
 ⟨p,cap,f,va,_,.cons _ (zb [_,_] [_] E),h.imp (fun e=>e) fun ⟨e,h⟩=>⟨pa,ps,id,en,s,po,cs,E,e,.refl _,h⟩⟩
theorem Xb {q pa px ps p cap id en:Nat} {w:Value} {s:AQ} {po:Bool} {l:List Av} {f:Fs} {R:AE} {E:List AE}:Gd q (R::pt q 51 (BX p (AM pa))::B9 pa px ps p cap id en s po true w l f E):=
 ⟨p,cap,f,AM pa,_,(List.Perm.swap _ _ _).trans (.cons _ (zb [_,_,_,_,_] [_] E)),.inr ⟨pa,ps,id,en,s,po,_,_,rfl,(List.Perm.cons R (.cons _ (zb [_,_] [_] E))).trans (zb [R] [_,_] _),Gh _ _⟩⟩
theorem bq {e:Nat} {vd vs vn vf:Value} {a b r po:Bool} (h:∀u∈Ce e vd vs vn vf a b,Value.one u=true):∀u∈Ce e vd vs vn vf r po,Value.one u=true:=by
 simp only [Ce,List.forall_mem_cons]at h ⊢
 exact ⟨h.1,h.2.1,h.2.2.1,h.2.2.2.1,h.2.2.2.2.1,rfl,rfl,h.2.2.2.2.2.2.2⟩
theorem MM {B q n c:Nat} {k lv cn cf:Int} {A:Option Addr} {vk:Value} {nm:List UInt8} {X F:List AE} {P:Nat→Value→List AE→Prop} {h0:AA} (st0:St B h0 h0 (X++F)) (hX:Gd q X) (hP:∀e vf Y,P e vf Y→Gd q Y) (hvk:Value.one vk=true)
  (hout:∀ (F':List AE) (h1:AA),BC B h0 h1→St B h1 h1 (X++F')→AG Tryz.prog 17 [AM q,.agg (BK k nm A n c lv vk cn cf).toArray] h1 fun v h'=>∃e vd vs vn vf Y,P e vf Y∧(∀u∈Ce e vd vs vn vf false false,Value.one u=true)∧v=Al [Gj e vd vs vn vf false false,.bool true]∧St B h1 h' (Y++F')):
  AG Tryz.prog 7 [AM q,.agg (BK k nm A n c lv vk cn cf).toArray] h0 fun v h'=>∃e vd vs vn vf r po Y,P e vf Y∧(∀u∈Ce e vd vs vn vf r po,Value.one u=true)∧v=Gj e vd vs vn vf r po∧St B h0 h' (Y++F):=by
 refine AG.mono (QL (P:=fun cs Y=>∃e vd vs vn vf,cs=Ce e vd vs vn vf false false∧(∀u∈Ce e vd vs vn vf false false,Value.one u=true)∧P e vf Y) st0 hX (fun _ Y ⟨_,_,_,_,_,_,_,h⟩=>hP _ _ Y h) fun F' h1 hl s=>ct s hvk fun F2 h2 hl2 s2=>AG.mono (hout F2 h2 (hl.trans hl2) s2) ?_) ?_
 ·rintro v h' ⟨e,vd,vs,vn,vf,Y,hp,ho,rfl,t⟩
  exact ⟨_,Y,⟨e,vd,vs,vn,vf,rfl,ho,hp⟩,rfl,ho,rfl,t⟩
 ·rintro v h' ⟨_,Y,r,po,⟨e,vd,vs,vn,vf,rfl,ho,hp⟩,_,rfl,t⟩
  exact ⟨e,vd,vs,vn,vf,r,po,Y,hp,bq ho,rfl,t⟩
theorem Qn {B q p pa n c:Nat} {k lv cn cf:Int} {A:Option Addr} {vk:Value} {nm:List UInt8} {X F:List AE} {P:Nat→List AE→Prop} {h0:AA} (st0:St B h0 h0 (pt q 51 (BX p (AM pa))::(X++F))) (hX:Gd q (pt q 51 (BX p (AM pa))::X)) (hP:∀e Y,P e Y→Gd q Y) (hk:(3≤k∧k≤7)∨(11≤k∧k≤14))
  (hch:∀ (F':List AE) (h1:AA),BC B h0 h1→St B h1 h1 (pt q 51 (BX p (AM pa))::(X++F'))→AG Tryz.prog 19 [AM q,.agg (BK k nm A n c lv vk cn cf).toArray] h1 fun v h'=>∃e Y,P e Y∧v=nV e∧St B h1 h' (Y++F')):
  AG Tryz.prog 7 [AM q,.agg (BK k nm A n c lv vk cn cf).toArray] h0 fun v h'=>∃e vd vs vn vf r po Y,P e Y∧v=Gj e vd vs vn vf r po∧St B h0 h' (Y++F):=by
 refine AG.mono (QL (X:=pt q 51 (BX p (AM pa))::X) (P:=fun cs Y=>∃e,cs=Cd e∧P e Y) st0 hX (fun _ Y ⟨e,_,h⟩=>hP e Y h) fun F' h1 hl s=>AG.mono (cr (X:=X) s hk fun F2 h2 hl2 s2=>hch F2 h2 (hl.trans hl2) s2) ?_) ?_
 ·rintro v h' ⟨e,Y,hp,rfl,t⟩
  exact ⟨_,Y,⟨e,rfl,hp⟩,rfl,HA e,rfl,t⟩
 ·rintro v h' ⟨_,Y,r,po,⟨e,rfl,hp⟩,_,rfl,t⟩
  exact ⟨e,_,_,_,_,r,po,Y,hp,rfl,t⟩
theorem Xl {cs:List Value} {e:Nat} (h:K0 cs e):∃vd vs vn vf a b,cs=[nV e,vd,vs,vn,vf,a,b]:=by
 obtain ⟨h1,h2,_⟩:=h
 match cs,h1,h2 with
 | [x,vd,vs,vn,vf,a,b],_,h2=>exact ⟨vd,vs,vn,vf,a,b,by simp only [List.getElem?_cons_zero,Option.some.injEq]at h2;rw [h2]⟩
theorem WP {B q p cap S n c:Nat} {lv cn cf:Int} {A:Option Addr} {vk:Value} {nm:List UInt8} {F:List AE} {h0:AA} (st0:St B h0 h0 (pt q 51 (BX p (.pointer none))::BF p cap Dh::F)) (hS:3≤S∧2*S≤cap) (hcap:cap≤65536) (hvk:Value.one vk=true):
  AG Tryz.prog 7 [AM q,.agg (BK 1 nm A n c lv vk cn cf).toArray] h0 fun v h'=>(∃vd vs vn vf r po,v=Gj 0 vd vs vn vf r po)∧St B h0 h' (pt q 51 (BX p (.pointer none))::BF p cap (EG Dh (CE []))::F):=by
 refine AG.mono (MM (X:=[pt q 51 (BX p (.pointer none)),BF p cap Dh]) (P:=fun e _ Y=>e=0∧Y=[pt q 51 (BX p (.pointer none)),BF p cap (EG Dh (CE []))]) st0 Mc (by rintro _ _ _ ⟨_,rfl⟩;exact Mc) hvk fun F' h1 _ s=>AG.mono (dR s hS hcap) ?_) ?_
 ·rintro v h' ⟨rfl,t⟩
  exact ⟨0,_,_,_,_,_,⟨rfl,rfl⟩,HA 0,rfl,t⟩
 ·rintro v h' ⟨_,vd,vs,vn,vf,r,po,_,⟨rfl,rfl⟩,_,rfl,t⟩
  exact ⟨⟨vd,vs,vn,vf,r,po,rfl⟩,t⟩
theorem St.dkOk {B p cap i:Nat} {h0 hp:AA} {f:Fs} {d:Dk} {F:List AE} (st:St B h0 hp (BF p cap f::F)) (hd:f.dk[i]? =some d):d.ok∧d.safe.length≤4096:=by
 obtain ⟨x,_,st⟩:=st.fs
 obtain ⟨_,_,_,_,_,_,_,_,st2⟩:=St.fdisk (F:=F) st hd
 exact (St.dk.1 st2).1
theorem Qo {B q p cap i n c:Nat} {lv cn cf:Int} {A:Option Addr} {vk:Value} {nm:List UInt8} {d:Dk} {s:AQ} {l:List AS} {f:Fs} {F:List AE} {h0:AA} (st0:St B h0 h0 (pt q 51 (BX p (.pointer none))::BF p cap f::F)) (hq:f.quiet=true) (hN:f.now B7=some i) (hd:f.dk[i]? =some d) (hG:Et d.now l s) (hL:B4 l) (hvk:Value.one vk=true):
  AG Tryz.prog 7 [AM q,.agg (BK 2 nm A n c lv vk cn cf).toArray] h0 fun v h'=>∃pa px ps w A6 n6 c6 vd vs vn r po,(∀u∈Ce 0 vd vs vn (.slice A6 n6 c6) r po,Value.one u=true)∧v=Gj 0 vd vs vn (.slice A6 n6 c6) r po∧St B h0 h' (Gn (.slice A6 n6 c6) (Bl l)::pt q 51 (BX p (AM pa))::B9 pa px ps p cap i (1024+(AX l).length) s false true w (mems l) (f.setD i d.sync).syncD F):=by
 obtain ⟨hok,hd4⟩:=st0.tail.dkOk hd
 refine AG.mono (MM (X:=[pt q 51 (BX p (.pointer none)),BF p cap f]) (P:=fun e vf Y=>∃pa px ps w A6 n6 c6,e=0∧vf= .slice A6 n6 c6∧Y=Gn (.slice A6 n6 c6) (Bl l)::pt q 51 (BX p (AM pa))::B9 pa px ps p cap i (1024+(AX l).length) s false true w (mems l) (f.setD i d.sync).syncD []) st0 Mc (by rintro _ _ _ ⟨_,_,_,_,_,_,_,_,_,rfl⟩;exact Xb) hvk fun F' h1 _ s1=>AG.mono (dT s1 hq hN hd hok (by omega) hG hL) ?_) ?_
 ·rintro v h' ⟨pa,px,ps,w,A6,n6,c6,rfl,t⟩
  exact ⟨0,_,_,_,_,_,⟨pa,px,ps,w,A6,n6,c6,rfl,rfl,rfl⟩,(Gi rfl rfl rfl rfl).2.2,rfl,t⟩
 ·rintro v h' ⟨_,vd,vs,vn,vf,r,po,_,⟨pa,px,ps,w,A6,n6,c6,rfl,rfl,rfl⟩,ho,rfl,t⟩
  exact ⟨pa,px,ps,w,A6,n6,c6,vd,vs,vn,r,po,ho,rfl,t⟩
def Db (q p S cap m:Nat) (qt:Bool) (l0 l:List AS) (E X:List AE):Prop:=∃pa px ps id w so s f,X=pt q 51 (BX p (AM pa))::B9 pa px ps p cap id (1024+(AX l).length) s false true w (mems l) f E∧SI f S cap id (m*(2*S)) so s l0 l∧s.seq≤m+1∧f.quiet=qt
def Lg (l:List AS):Prop:=(∀e∈l,e.ok)∧(AX l).length≤l.length*1086
theorem Lg.nil:Lg []:=⟨fun _ h=>(by cases h),by simp [AX]⟩
theorem Lg.snoc {l:List AS} {e:AS} (h:Lg l) (hn:DU e.name) (hd:e.data.length≤1000):Lg (l++[e]):=by
 have he:e.ok:=⟨hn,by omega⟩
 have h1:=he.rb_le
 have h2:=h.2
 refine ⟨fun x hx=> ?_,?_⟩
 ·rcases List.mem_append.1 hx with hx | hx
  ·exact h.1 x hx
  ·rw [zo.1 hx];exact he
 ·rw [JU,z2,z2,zm];omega
theorem Lg.log {l:List AS} (h:Lg l) (hl:l.length≤60):B4 l:=(NO h.1 (by omega) (Nat.le_refl _) (by omega)).1
theorem SI.one {f:Fs} {S cap id w:Nat} {so s:AQ} {l0 l:List AS} (h:SI f S cap id w so s l0 l):f.dk.length≤1:=by
 rcases Nat.lt_or_ge 1 f.dk.length with h1 | h1
 ·have key:∀i,i<f.dk.length→i=id:=fun i hi=>by
   obtain ⟨k,hk⟩:=h.fit.link i hi
   rw [h.set.now]at hk
   simp only at hk
   split at hk
   ·exact (Option.some.inj hk).symm
   ·cases hk
  have h2:=key 0 (by omega)
  have h3:=key 1 h1
  omega
 ·exact h1
theorem Db.app {q p S cap m:Nat} {qt:Bool} {l0 l:List AS} {E X:List AE} (h:Db q p S cap m qt l0 l E X):∃Y,X=Y++E∧Db q p S cap m qt l0 l [] Y:=by
 obtain ⟨pa,px,ps,id,w,so,s,f,rfl,h⟩:=h
 exact ⟨_,rfl,pa,px,ps,id,w,so,s,f,rfl,h⟩
theorem Db.acc {q p S cap m:Nat} {qt:Bool} {l0 l:List AS} {E X:List AE} (h:Db q p S cap m qt l0 l E X):Gd q X:=by
 obtain ⟨pa,px,ps,id,w,so,s,f,rfl,h⟩:=h
 exact G9
theorem SI.up {f:Fs} {S cap id w w':Nat} {so s:AQ} {l0 l:List AS} (h:SI f S cap id w so s l0 l) (hw:w≤w') (h1:w'≤1000000):SI f S cap id w' so s l0 l:=⟨h.set,h.fit,fun d hd=>zw (h.wl d hd) hw,h1,h.S⟩
theorem WR {B q p S cap m n c:Nat} {lv cn cf:Int} {A:Option Addr} {vk:Value} {nm b:List UInt8} {l0 l:List AS} {X E F:List AE} {h0:AA} (st0:St B h0 h0 (X++(E++F))) (hX:Db q p S cap m true l0 l [] X) (hl:Lg l) (hm:m≤40) (hS:3244+(l.length+2)*2168≤512*S) (hcap:3*S≤cap) (hnm:DU nm) (hb:b.length≤1000) (hbn:b.length=n) (hln:l.length≤40)
  (hr:∀ (h1:AA) (G:List AE),BC B h0 h1→St B h1 h1 (E++G)→Rd h1 A (b.map AN)):
  AG Tryz.prog 7 [AM q,.agg (BK 3 nm A n c lv vk cn cf).toArray] h0 fun v h'=>(∃vd vs vn vf r po,v=Gj 0 vd vs vn vf r po)∧∃Y,Db q p S cap (m+1) true l0 (l++[⟨nm,b,lv⟩]) [] Y∧St B h0 h' (Y++(E++F)):=by
 obtain ⟨pa,px,ps,id,w,so,s,f,rfl,hI,hsq,hq⟩:=hX
 have hL:=hl.log (by omega)
 have hd1:=hI.one
 have hl2:=hl.2
 have hS1:=hI.S
 have hmw:(m+1)*(2*S)≤41*(2*S):=Nat.mul_le_mul_right _ (by omega)
 have hms:(m+1)*(2*S)=m*(2*S)+2*S:=Nat.succ_mul _ _
 have hdkS:(f.dk.length+2)*S≤3*S:=Nat.mul_le_mul_right _ (by omega)
 refine AG.mono (Qn (X:=B9 pa px ps p cap id (1024+(AX l).length) s false true w (mems l) f E) (F:=F) (P:=fun e Y=>e=0∧Db q p S cap (m+1) true l0 (l++[⟨nm,b,lv⟩]) E Y) st0 G9 (fun _ _ h=>h.2.acc) (.inl ⟨by decide,by decide⟩) fun F' h1 hlow s1=>AG.mono (QF (F:=E++F') s1 hI hL rfl (by omega) (by omega) (hr h1 F' hlow s1.tail.tail.tail.tail.tail.tail) hbn (by omega) (by omega) (by omega) (by omega) (by omega) (by omega) (.inl ⟨by decide,by decide⟩)) ?_) ?_
 ·rintro v h' ⟨e,rfl,hh⟩
  rcases hh with ⟨_,rfl,_,so',s',f',w',hI',hs',hq',t⟩ | ⟨h12,_⟩ | ⟨f',id',en',s',po,cs,va,L,_,hch,_⟩
  ·have he:1024+(AX l).length+(AS.rb ⟨nm,b,lv⟩).length=1024+(AX (l++[⟨nm,b,lv⟩])).length:=by rw [JU,z2];omega
   rw [he]at t
   exact ⟨0,_,⟨rfl,pa,px,ps,id,w',so',s',f',rfl,by rw [hms];exact hI',by omega,hq'.trans hq⟩,rfl,t⟩
  ·exact absurd h12 (by decide)
  ·exact absurd ((hch.put rfl hnm).symm.trans hq) (by decide)
 ·rintro v h' ⟨_,vd,vs,vn,vf,r,po,Y,⟨rfl,hY⟩,rfl,t⟩
  obtain ⟨Y0,rfl,hY0⟩:=hY.app
  exact ⟨⟨vd,vs,vn,vf,r,po,rfl⟩,Y0,hY0,by rw [←z8];exact t⟩
theorem WS {B q p S cap m c:Nat} {lv cn cf:Int} {vk:Value} {nm:List UInt8} {l0 l:List AS} {X F:List AE} {h0:AA} (st0:St B h0 h0 (X++F)) (hX:Db q p S cap m true l0 l [] X) (hl:Lg l) (hm:m≤40) (hS:3244+(l.length+2)*2168≤512*S) (hcap:3*S≤cap) (hln:l.length≤40):
  AG Tryz.prog 7 [AM q,.agg (BK 12 nm none 0 c lv vk cn cf).toArray] h0 fun v h'=>(∃vd vs vn vf r po,v=Gj 0 vd vs vn vf r po)∧∃Y,Db q p S cap (m+1) true l l [] Y∧St B h0 h' (Y++F):=by
 obtain ⟨pa,px,ps,id,w,so,s,f,rfl,hI,hsq,hq⟩:=hX
 have hL:=hl.log (by omega)
 have hd1:=hI.one
 have hl2:=hl.2
 have hS1:=hI.S
 have hmw:(m+1)*(2*S)≤41*(2*S):=Nat.mul_le_mul_right _ (by omega)
 have hms:(m+1)*(2*S)=m*(2*S)+2*S:=Nat.succ_mul _ _
 have hdkS:(f.dk.length+2)*S≤3*S:=Nat.mul_le_mul_right _ (by omega)
 refine AG.mono (Qn (X:=B9 pa px ps p cap id (1024+(AX l).length) s false true w (mems l) f []) (F:=F) (P:=fun e Y=>e=0∧Db q p S cap (m+1) true l l [] Y) st0 G9 (fun _ _ h=>h.2.acc) (.inr ⟨by decide,by decide⟩) fun F' h1 hlow s1=>AG.mono (QF (b:=[]) s1 hI hL rfl (by omega) (by omega) (Rd.nil _ _) rfl (by omega) (by omega) (by omega) (by omega) (by omega) (by omega) (.inr ⟨by decide,by decide⟩)) ?_) ?_
 ·rintro v h' ⟨e,rfl,hh⟩
  rcases hh with ⟨h3,_⟩ | ⟨_,rfl,so',s',f',hI',hs',hq',t⟩ | ⟨f',id',en',s',po,cs,va,L,_,hch,_⟩
  ·exact absurd h3 (by decide)
  ·exact ⟨0,_,⟨rfl,pa,px,ps,id,w,so',s',f',rfl,hI'.up (by omega) (by omega),by omega,hq'.trans hq⟩,rfl,t⟩
  ·exact absurd ((hch.syn rfl).2.1.symm.trans hq) (by decide)
 ·rintro v h' ⟨_,vd,vs,vn,vf,r,po,Y,⟨rfl,hY⟩,rfl,t⟩
  exact ⟨⟨vd,vs,vn,vf,r,po,rfl⟩,Y,hY,t⟩
theorem fP {B q p S cap m n c:Nat} {lv cn cf:Int} {A:Option Addr} {vk:Value} {nm:List UInt8} {l0 l:List AS} {X F:List AE} {h0:AA} (st0:St B h0 h0 (X++F)) (hX:Db q p S cap m true l0 l [] X) (hlv:0≤lv∧lv≤255) (hvk:Value.one vk=true):
  AG Tryz.prog 7 [AM q,.agg (BK 17 nm A n c lv vk cn cf).toArray] h0 fun v h'=>(∃vd vs vn vf r po,v=Gj 0 vd vs vn vf r po)∧∃Y,Db q p S cap m false l0 l [] Y∧St B h0 h' (Y++F):=by
 obtain ⟨pa,px,ps,id,w,so,s,f,rfl,hI,hsq,hq⟩:=hX
 refine AG.mono (MM (X:=pt q 51 (BX p (AM pa))::B9 pa px ps p cap id (1024+(AX l).length) s false true w (mems l) f []) (P:=fun e _ Y=>e=0∧Db q p S cap m false l0 l [] Y) st0 G9 (fun _ _ _ h=>h.2.acc) hvk fun F' h1 hlow s1=>AG.mono (dS (s1.perm (.cons _ (zb [_,_,_,_] [_] F'))) hlv) ?_) ?_
 ·rintro v h' ⟨rfl,t⟩
  have t:=t.perm (.cons _ (zb [_] [_,_,_,_] F'))
  exact ⟨0,_,_,_,_,_,⟨rfl,pa,px,ps,id,w,so,s,{f with quiet:=false},rfl,⟨⟨hI.set.now,hI.set.safe,hI.set.wait,hI.set.dk⟩,⟨hI.fit.dk,hI.fit.link,hI.fit.now,hI.fit.wait,hI.fit.room,hI.fit.cap⟩,hI.wl,hI.w,hI.S⟩,hsq,rfl⟩,HA 0,rfl,t⟩
 ·rintro v h' ⟨_,vd,vs,vn,vf,r,po,Y,⟨rfl,hY⟩,_,rfl,t⟩
  exact ⟨⟨vd,vs,vn,vf,r,po,rfl⟩,Y,hY,t⟩
def Kq (q p cap:Nat) (L:List (List AS)) (Y:List AE):Prop:=∃va f Y2,Y.Perm (pt q 51 (BX p va)::BF p cap f::Y2)∧DV f L∧Gd q Y
structure Ht (k:Int) (e:Nat) (l0 l:List AS) (L:List (List AS)):Prop where
  log:∀x∈L,B4 x
  one:∀x∈L,Bl x=Bl l0∨(k=12∨k=13∨k=14)∧Bl x=Bl l
  safe:(k=12∨k=13∨k=14)→e=0→∀x∈L,Bl x=Bl l
theorem Ht.old {k:Int} {e:Nat} {l0 l:List AS} (h:B4 l0) (hk:¬ (k=12∨k=13∨k=14)):Ht k e l0 l [l0]:=
 ⟨fun x hx=>by rw [zo.1 hx];exact h,fun x hx=>by rw [zo.1 hx];exact .inl rfl,fun h=>absurd h hk⟩
theorem Ht.new {k:Int} {e:Nat} {l0 l l1:List AS} (h:B4 l1) (hk:k=12∨k=13∨k=14) (hf:Bl l1=Bl l):Ht k e l0 l [l1]:=
 ⟨fun x hx=>by rw [zo.1 hx];exact h,fun x hx=>by rw [zo.1 hx];exact .inr ⟨hk,hf⟩,fun _ _ x hx=>by rw [zo.1 hx];exact hf⟩
theorem Ht.two {k:Int} {e:Nat} {l0 l l1:List AS} (h0:B4 l0) (h:B4 l1) (hk:k=12∨k=13∨k=14) (hf:Bl l1=Bl l) (he:e≠0):Ht k e l0 l [l0,l1]:=by
 refine ⟨fun x hx=> ?_,fun x hx=> ?_,fun _ h=>absurd h he⟩ <;> simp only [List.mem_cons,zl,or_false]at hx <;> rcases hx with rfl | rfl
 ·exact h0
 ·exact h
 ·exact .inl rfl
 ·exact .inr ⟨hk,hf⟩
theorem Ks.out {k:Int} {e:Nat} {l0 l:List AS} {lv:Int} {nm:List UInt8} {qt:Bool} {L:List (List AS)} (h:Ks k e l0 l lv nm qt L) (h0:B4 l0) (h1:B4 l) (hv:B4 (Ei l lv)):Ht k e l0 l L:=by
 by_cases k12:k=12
 ·obtain ⟨he,_,rfl⟩:=h.syn k12
  exact .two h0 h1 (.inl k12) rfl he
 ·by_cases k13:k=13
  ·rcases h.vac k13 with ⟨_,rfl⟩ | ⟨he,rfl⟩
   ·exact .new hv (.inr (.inl k13)) (Wv h1 lv)
   ·exact .two h0 hv (.inr (.inl k13)) (Wv h1 lv) he
  ·by_cases k14:k=14
   ·rcases h.clo k14 with ⟨_,rfl⟩ | ⟨he,rfl⟩
    ·exact .new h1 (.inr (.inr k14)) rfl
    ·exact .two h0 h1 (.inr (.inr k14)) rfl he
   ·rw [h.els k12 k13 k14]
    exact .old h0 (by omega)
theorem DI.goodB {d:Dk} {so s:AQ} {l0 l:List AS} (h:DI d so s l0 l):Et d.now l0 s:=
 M5 h.ok h.rt h.en h.log (fun hc=>⟨(h.dir hc).2.1,(h.dir hc).2.2.1⟩) h.cur (zo.1 (h.vo.after h.cur)) (zo.1 (h.vs.after h.cur))
theorem fO {B q p S cap m n c:Nat} {k lv cn cf:Int} {A:Option Addr} {vk:Value} {nm b:List UInt8} {l0 l:List AS} {X F:List AE} {h0:AA} (st0:St B h0 h0 (X++F)) (hX:Db q p S cap m false l0 l [] X) (hl0:Lg l0) (hl:Lg l) (hm:m≤40) (hS:3244+(l.length+2)*2168≤512*S) (hcap:3*S≤cap) (hln0:l0.length≤40) (hln:l.length≤40) (hb:n≤2000) (hbn:b.length=n) (hk:3≤k∧k≤15) (hvk:Value.one vk=true)
  (hr:∀ (h1:AA),BC B h0 h1→Rd h1 A (b.map AN)):
  AG Tryz.prog 7 [AM q,.agg (BK k nm A n c lv vk cn cf).toArray] h0 fun v h'=>∃e vd vs vn vf r po Y L,v=Gj e vd vs vn vf r po∧Kq q p cap L Y∧Ht k e l0 l L∧St B h0 h' (Y++F):=by
 obtain ⟨pa,px,ps,id,w,so,s,f,rfl,hI,hsq,hq⟩:=hX
 have hL0:=hl0.log (by omega)
 have hL:=hl.log (by omega)
 have hLv:B4 (Ei l lv):=(NO (Ww hL lv) (by have:=Q1 hL lv;omega) (Q1 hL lv) (by omega)).1
 have hd1:=hI.one
 have hl2:=hl.2
 have hS1:=hI.S
 have hmw:(m+1)*(2*S)≤41*(2*S):=Nat.mul_le_mul_right _ (by omega)
 have hms:(m+1)*(2*S)=m*(2*S)+2*S:=Nat.succ_mul _ _
 have hdkS:(f.dk.length+2)*S≤3*S:=Nat.mul_le_mul_right _ (by omega)
 have hper:∀ {w':Value} {ms:List Av} {id' en':Nat} {s':AQ} {f':Fs} {L:List (List AS)},DV f' L→Kq q p cap L (pt q 51 (BX p (AM pa))::B9 pa px ps p cap id' en' s' false true w' ms f' []):=fun hg=>⟨_,_,_,.cons _ (zb [_,_,_,_] [_] []),hg,G9⟩
 by_cases hk1:(3≤k∧k≤7)∨(11≤k∧k≤14)
 ·refine AG.mono (Qn (X:=B9 pa px ps p cap id (1024+(AX l).length) s false true w (mems l) f []) (F:=F) (P:=fun e Y=>∃L,Kq q p cap L Y∧Ht k e l0 l L) st0 G9 (fun _ _ ⟨_,⟨_,_,_,_,_,h⟩,_⟩=>h) hk1 fun F' h1 hlow s1=>AG.mono (QF s1 hI hL rfl (by omega) (by omega) (hr h1 hlow) hbn hb (by omega) (by omega) (by omega) (by omega) (by omega) hk1) ?_) ?_
  ·rintro v h' ⟨e,rfl,hh⟩
   rcases hh with ⟨rfl,rfl,_,so',s',f',w',hI',hs',hq',t⟩ | ⟨rfl,rfl,so',s',f',hI',hs',hq',t⟩ | ⟨f',id',en',s',po,cs,va,L,hg,hch,hva,t⟩
   ·exact ⟨0,_,⟨_,hper hI'.set.good,.old hL0 (by decide)⟩,rfl,t⟩
   ·exact ⟨0,_,⟨_,hper hI'.set.good,.new hL (.inl rfl) rfl⟩,rfl,t⟩
   ·exact ⟨e,_,⟨L,⟨va,f',_,.cons _ (zb [_,_] [_] []),hg,Xa hva⟩,hch.out hL0 hL hLv⟩,rfl,t⟩
  ·rintro v h' ⟨e,vd,vs,vn,vf,r,po,Y,⟨L,h1,h2⟩,rfl,t⟩
   exact ⟨e,vd,vs,vn,vf,r,po,Y,L,rfl,h1,h2,t⟩
 ·by_cases hk2:k≤10
  ·refine AG.mono (QL (X:=pt q 51 (BX p (AM pa))::B9 pa px ps p cap id (1024+(AX l).length) s false true w (mems l) f []) (F:=F) (P:=fun cs Y=>(∃e,K0 cs e)∧Y=pt q 51 (BX p (AM pa))::B9 pa px ps p cap id (1024+(AX l).length) s false true w (mems l) f []) st0 G9 (fun _ _ ⟨_,h⟩=>h▸G9) fun F' h1 hlow s1=>AG.mono (cu (F:=F') s1 (hI.rd hL) (by omega)) ?_) ?_
   ·rintro v h' ⟨cs,e,rfl,hok,t⟩
    exact ⟨cs,_,⟨⟨e,hok⟩,rfl⟩,hok.1,hok.2.2,rfl,t⟩
   ·rintro v h' ⟨cs,_,r,po,⟨⟨e,hok⟩,rfl⟩,_,rfl,t⟩
    obtain ⟨vd,vs,vn,vf,a,b,rfl⟩:=Xl hok
    exact ⟨e,vd,vs,vn,vf,r,po,_,_,rfl,hper hI.set.good,.old hL0 (by omega),t⟩
  ·obtain rfl:k=15:=by omega
   obtain ⟨d,hd,hDI,hdS,hdw⟩:=hI.dk
   refine AG.mono (MM (X:=pt q 51 (BX p (AM pa))::B9 pa px ps p cap id (1024+(AX l).length) s false true w (mems l) f []) (F:=F) (P:=fun e _ Y=>Y=pt q 51 (BX p (AM pa))::B9 pa px ps p cap id (1024+(AX l).length) s false true w (mems l) f []) st0 G9 (fun _ _ _ h=>h▸G9) hvk fun F' h1 hlow s1=>AG.mono (dU (s1.perm (.cons _ (zb [_,_,_,_] [_] F'))) hI.set.nowA.1 hd hDI.ok (by omega) hDI.goodB hL0) ?_) ?_
   ·rintro v h' ⟨⟨vf,h1,rfl⟩,hx⟩
    exact ⟨0,_,_,_,vf,_,rfl,(Gi rfl rfl rfl h1).2.2,rfl,s1.ext hx⟩
   ·rintro v h' ⟨e,vd,vs,vn,vf,r,po,_,rfl,_,rfl,t⟩
    exact ⟨e,vd,vs,vn,vf,r,po,_,_,rfl,hper hI.set.good,.old hL0 (by decide),t⟩
theorem av {f f':Fs} {L:List (List AS)} (h:MV f f') (hG:DV f L):∃i d x s,x∈L∧f'.now B7=some i∧f'.dk[i]? =some d∧Et d.now x s:=by
 obtain ⟨m,hm⟩:=h.now
 obtain ⟨i,d,h1,h2,h3⟩:=hG m
 obtain ⟨b,ha,h4⟩:=h.dk i d h2
 obtain ⟨x,s,h5,h6⟩:=h3 b ha
 exact ⟨i,_,x,s,h5,by rw [hm];exact h1,h4,h6⟩
theorem WO {B q p cap n c kn kc:Nat} {lv cn cf:Int} {A Ak:Option Addr} {nm:List UInt8} {ks:List Bool} {L:List (List AS)} {Y F:List AE} {h0:AA} (st0:St B h0 h0 (Y++F)) (hY:Kq q p cap L Y) (hl:ks.length=kn) (hkc:kn≤kc) (hkn:kn≤1048576) (hr:∀ (h1:AA),BC B h0 h1→Rd h1 Ak (ks.map Value.bool)):
  AG Tryz.prog 7 [AM q,.agg (BK 18 nm A n c lv (.slice Ak kn kc) cn cf).toArray] h0 fun v h'=>(∃vd vs vn vf r po,v=Gj 0 vd vs vn vf r po)∧∃f' i d x s Y2,x∈L∧f'.quiet=true∧f'.now B7=some i∧f'.dk[i]? =some d∧Et d.now x s∧St B h0 h' (pt q 51 (BX p (.pointer none))::BF p cap f'::(Y2++F)):=by
 obtain ⟨va,f,Y2,hp,hG,hacc⟩:=hY
 have hs:∃k i,f.safe k=some i:=by
  obtain ⟨i,d,h1,_⟩:=hG 0
  exact ⟨B7,i,h1⟩
 refine AG.mono (MM (X:=Y) (P:=fun e _ Y'=>e=0∧∃f',MV f f'∧Y'=pt q 51 (BX p (.pointer none))::BF p cap f'::Y2) st0 hacc (by rintro _ _ _ ⟨_,f',_,rfl⟩;exact Mc) rfl fun F' h1 hlow s=>AG.mono (dQ (F:=Y2++F') (s.perm (hp.append_right F')) (fun h' rs t=>hr h' (hlow.trans t.low)) hl hkc hs hkn) ?_) ?_
 ·rintro v h' ⟨rfl,f',hlost,t⟩
  exact ⟨0,_,_,_,_,_,⟨rfl,f',hlost,rfl⟩,HA 0,rfl,t⟩
 ·rintro v h' ⟨_,vd,vs,vn,vf,r,po,_,⟨rfl,f',hlost,rfl⟩,_,rfl,t⟩
  obtain ⟨i,d,x,s,h1,h2,h3,h4⟩:=av hlost hG
  exact ⟨⟨vd,vs,vn,vf,r,po,rfl⟩,f',i,d,x,s,Y2,h1,hlost.quiet,h2,h3,h4,t⟩
theorem aQ {S cap:Nat} (hS:3≤S∧2*S≤cap∧S≤1000) (hcap:cap≤65536):∃d,(EG Dh (CE [])).quiet=true∧(EG Dh (CE [])).now B7=some 0∧(EG Dh (CE [])).dk[0]? =some d∧Et d.now [] (Cw 1 [])∧SI ((EG Dh (CE [])).setD 0 d.sync).syncD S cap 0 0 (Cw 0 []) (Cw 1 []) [] []:=by
 have hL:B4 []:=Lg.nil.log (by decide)
 have hdi:=TN (l:=[]) (ML hL (q:=0) (by omega)) (ML hL (q:=1) (by omega))
 obtain ⟨h1,_,h2⟩:=Tg (f:=Dh) (img:=CE []) rfl
 have hil:(CE []).length≤1044:=(NO (l:=[]) (fun _ h=>(by cases h)) (by decide) (Nat.le_refl _) (by decide)).2
 have hw:=Dk.write_le Dk.nil_ok 0 (CE []) (S:=S) (by simp [Dk.nil]) (by unfold Ba;omega)
 have hnow:(EG Dh (CE [])).now=fun k=>if k=B7 then some 0 else none:=by
  funext k
  show Br (Br (fun _=>none) ⟨[],Ch,0⟩) Id k=_
  by_cases e1:k=B7
  ·subst e1;simp [Br]
  ·by_cases e2:k=Ch
   ·subst e2;simp [Br]
   ·simp [Br,e1,e2]
 refine ⟨_,rfl,h1,h2,hdi.goodB,?_⟩
 obtain ⟨D,hD⟩:∃D,D=(Dk.nil.write 0 (CE [])).sync:=⟨_,rfl⟩
 rw [←hD]at hdi h2 ⊢
 have hDs:D.safe.length≤S:=by rw [hD,(Dk.sync_len _).1];exact hw
 have hdk:((EG Dh (CE [])).setD 0 D.sync).syncD.dk=[D.sync]:=rfl
 refine ⟨⟨hnow,rfl,rfl,D.sync,by rw [hdk];rfl,hdi.sync⟩,⟨fun d hd=> ?_,fun i hi=> ?_,fun k i hk=> ?_,Nat.zero_le _,?_,hcap⟩,fun d hd=> ?_,by omega,by omega⟩
 ·rw [hdk]at hd
  rw [zo.1 hd,(Dk.sync_len _).1,(Dk.sync_len _).2]
  exact ⟨hDs,by simp⟩
 ·rw [hdk]at hi
  exact ⟨B7,by show (EG Dh (CE [])).now B7=_;rw [h1,show i=0 by simpa using hi];rfl⟩
 ·have hk:(EG Dh (CE [])).now k=some i:=hk
  rw [hnow]at hk
  simp only at hk
  split at hk
  ·rename_i e;rw [e];simp
  ·cases hk
 ·rw [hdk];show 2*S≤cap;omega
 ·rw [hdk]at hd
  simp only [List.getElem?_cons_zero,Option.some.injEq]at hd
  rw [←hd,(Dk.sync_len _).2];simp
end Go.Bn
end

section
namespace Go.Bn
open Go Proofs
structure Hs (B:Nat) (h0:AA) (A:Option Addr) (n:Nat) (L:List FV):Prop where
  len:L.length=n
  rd:∀h1:AA,BC B h0 h1→Rd h1 A (DT L)
  dat:∀q∈L,∀h1:AA,BC B h0 h1→HD h1 q
theorem Hs.at_ {B B':Nat} {h0 h1:AA} {A:Option Addr} {n:Nat} {L:List FV} (h:Hs B h0 A n L) (hl:BC B h0 h1) (hB:B≤B'):Hs B' h1 A n L:=
 ⟨h.len,fun h2 k=>h.rd h2 (hl.trans (k.mono hB)),fun q hq h2 k=>h.dat q hq h2 (hl.trans (k.mono hB))⟩
theorem Hs.get {B:Nat} {h0:AA} {A:Option Addr} {n i:Nat} {L:List FV} (h:Hs B h0 A n L) (hi:i<n):∃bb o yn yd A3 n3 c3,A=some ⟨bb,o,none⟩∧(yn,yd,Value.slice A3 n3 c3)∈L∧L[i]? =some (yn,yd,Value.slice A3 n3 c3)∧yd.length=n3∧
  ∀h1:AA,BC B h0 h1→(Az h1 ⟨bb,o+i*2,none⟩=some (AU yn)∧Az h1 ⟨bb,o+i*2+1,none⟩=some (.slice A3 n3 c3))∧Rd h1 A3 (yd.map AN):=by
 have hl:=h.len
 obtain ⟨y,hy⟩:∃y,L[i]'(by omega)=y:=⟨_,rfl⟩
 have hm:y∈L:=hy▸List.getElem_mem _
 obtain ⟨bb,o,e,_⟩:=Rd.flat fC 2 (h.rd h0 (BC.refl _ _)) (fun _=>rfl) (by omega) (by omega)
 obtain ⟨A3,n3,c3,e3,hl3,_⟩:=h.dat y hm h0 (BC.refl _ _)
 obtain ⟨yn,yd,yv⟩:=y
 simp only at e3 hl3
 subst e3
 refine ⟨bb,o,yn,yd,A3,n3,c3,e,hm,by rw [z9 (by omega),hy],hl3,fun h1 k=>⟨?_,?_⟩⟩
 ·obtain ⟨b2,o2,e2,hc⟩:=Rd.flat fC 2 (h.rd h1 k) (fun _=>rfl) (by omega) (by omega)
  rw [e]at e2
  cases e2
  have:=hc i (by omega)
  rw [hy]at this
  exact ⟨this 0 _ rfl,this 1 _ rfl⟩
 ·obtain ⟨A4,n4,c4,e4,hl4,hr4⟩:=h.dat _ hm h1 k
  simp only [Value.slice.injEq]at e4
  obtain ⟨rfl,rfl,rfl⟩:=e4
  exact hr4
theorem Sm {n c:Nat} {A:Option Addr} {L:List FV} {h0:AA} (ha:Hs h0.size h0 A n L):
  AG Tryz.prog 4 [.slice A n c] h0 fun v h'=>(∃b,v= .bool b∧(b=true→n<13∧∀q∈L,DU q.1∧q.2.1.length≤1000))∧AV h0 h':=by
 have hl:=ha.len
 refine BE Tryz.func4 rfl fun _=>BP ?_
 refine BD (fun s=>n-s) (fun s=>[(0,.slice A n c),(3,nV s)])
  (fun (s:Nat) hp=>s≤n∧s≤20∧(∀q∈L.take s,DU q.1∧q.2.1.length≤1000)∧St h0.size h0 hp []) 0 (Cu rfl rfl) ⟨Nat.zero_le _,by decide,fun q hq=>by simp at hq,St.start h0⟩ ?_
 rintro i hp ⟨hi,hi2,hok,st⟩
 refine AP ?_
 refine Am 8 rfl (fun h=> ?_) (fun h=> ?_)
 ·refine AJ ?_
  refine AK rfl (fun h=> ?_) (fun h=> ?_)
  ·obtain ⟨bb,o,yn,yd,A3,n3,c3,rfl,hm,hget,hl3,hcy⟩:=ha.get (i:=i) (by omega)
   have htk:L.take (i+1)=L.take i++[(yn,yd,.slice A3 n3 c3)]:=by rw [List.take_add_one,hget];rfl
   refine Aj ?_
   refine xl ((hcy _ st.low).1.1) rfl ?_
   refine xk (dp yn _) rfl ?_
   rintro _ hp2 ⟨⟨bb2,rfl,hbb⟩,hx⟩
   refine AT (.bool (decide (bb2=true))) (congrArg Value.bool (by cases bb2 <;> rfl)) ?_
   replace st:=st.ext hx
   refine AB ?_
   refine Am 21 rfl (fun h=> ?_) (fun h=> ?_)
   ·refine Cp ?_
    exact ⟨⟨false,rfl,fun e=>(by cases e)⟩,st.low⟩
   ·have hyn:DU yn:=hbb (by cases bb2 with
     | true=>rfl
     | false=>exact absurd (by decide) h)
    refine AJ ?_
    refine xl ((hcy _ st.low).1.2) rfl (AJ ?_)
    refine AK rfl (fun h=> ?_) (fun h=> ?_)
    ·refine AH ?_
     exact ⟨⟨false,rfl,fun e=>(by cases e)⟩,st.low⟩
    ·have hyd:n3≤1000:=by
      have h':¬ ((1000:Int) < (n3:Int)):=h
      omega
     refine AO ?_
     exact Ad (i+1) (Cu rfl rfl) ⟨by omega,by omega,fun q hq=>by
      rw [htk]at hq
      rcases List.mem_append.1 hq with hq | hq
      ·exact hok q hq
      ·rw [zo.1 hq];exact ⟨hyn,by simp only;omega⟩,st⟩ (by omega)
  ·refine Aj ?_
   refine ⟨⟨_,rfl,fun e=> ?_⟩,st.low⟩
   have hn13:(n:Int)<13:=of_decide_eq_true e
   refine ⟨by omega,?_⟩
   have:L.take i=L:=za (by omega)
   rw [this]at hok
   exact hok
 ·refine Bq ?_
  refine ⟨⟨_,rfl,fun e=> ?_⟩,st.low⟩
  have hn13:(n:Int)<13:=of_decide_eq_true e
  refine ⟨by omega,?_⟩
  have:L.take i=L:=za (by omega)
  rw [this]at hok
  exact hok
def Gf (B:Nat) (F:List AE) (v:Value) (G:List FV):Prop:=∃A n c,v= .slice A n c∧G.length=n∧∀ (h1:AA) (rs:List AE),St B h1 h1 (rs++F)→Rd h1 A (DT G)∧∀q∈G,HD h1 q
theorem Gf.nil {B:Nat} {F:List AE}:Gf B F (.slice none 0 0) []:=⟨none,0,0,rfl,rfl,fun _ _ _=>⟨Rd.nil _ _,fun _ h=>(by cases h)⟩⟩
theorem Gf.app {B:Nat} {D F:List AE} {v:Value} {G:List FV} (h:Gf B F v G):Gf B (D++F) v G:=by
 obtain ⟨A,n,c,h1,h2,h3⟩:=h
 exact ⟨A,n,c,h1,h2,fun hp rs st=>h3 hp (rs++D) (by rw [z8];exact st)⟩
theorem Gf.ins {B n c n2 c2:Nat} {A A2:Option Addr} {F:List AE} {v:Value} {nm dt:List UInt8} {G:List FV} (h:Gf B F v G):Gf B (row 45 2 (.slice A n c) (DT (Bx Prod.fst (nm,dt,.slice A2 n2 c2) G))::row 5 1 (.slice A2 n2 c2) (dt.map AN)::F) (.slice A n c) (Bx Prod.fst (nm,dt,.slice A2 n2 c2) G)∨(DT (Bx Prod.fst (nm,dt,Value.slice A2 n2 c2) G)).length≠n*2:=by
 rcases Decidable.em ((DT (Bx Prod.fst (nm,dt,Value.slice A2 n2 c2) G)).length=n*2)with hl | hl
 ·refine .inl ⟨A,n,c,rfl,by rw [Ig]at hl;omega,fun hp rs st=> ?_⟩
  obtain ⟨_,_,_,_,_,h3⟩:=h
  have j1:(rs++(row 45 2 (.slice A n c) (DT (Bx Prod.fst (nm,dt,.slice A2 n2 c2) G))::row 5 1 (.slice A2 n2 c2) (dt.map AN)::F))[rs.length]? =some (row 45 2 (.slice A n c) (DT (Bx Prod.fst (nm,dt,.slice A2 n2 c2) G))):=by
   rw [zh (Nat.le_refl _),Nat.sub_self];rfl
  have j2:(rs++(row 45 2 (.slice A n c) (DT (Bx Prod.fst (nm,dt,.slice A2 n2 c2) G))::row 5 1 (.slice A2 n2 c2) (dt.map AN)::F))[rs.length+1]? =some (row 5 1 (.slice A2 n2 c2) (dt.map AN)):=by
   rw [zh (by omega),Nat.add_sub_cancel_left];rfl
  refine ⟨(st.rdS _ j1).2,fun q hq=> ?_⟩
  rcases LO hq with rfl | hq
  ·have:=st.rdS _ j2
   rw [z3,zf]at this
   exact ⟨A2,n2,c2,rfl,this.1,this.2⟩
  ·exact (h3 hp (rs++[row 45 2 (.slice A n c) (DT (Bx Prod.fst (nm,dt,.slice A2 n2 c2) G)),row 5 1 (.slice A2 n2 c2) (dt.map AN)]) (by rw [z8];exact st)).2 q hq
 ·exact .inr hl
theorem VW {B q p S cap m n c:Nat} {A:Option Addr} {vn:Value} {L G:List FV} {l0 l:List AS} {X F:List AE} {h0:AA} (st0:St B h0 h0 (X++F)) (hX:Db q p S cap m true l0 l [] X) (hl:Lg l) (ha:Hs B h0 A n L) (hok:∀q∈L,DU q.1∧q.2.1.length≤1000) (hG:Gf B F vn G) (hGf:G.map nd=Bl l)
  (hmn:m+n≤40) (hln:l.length+n≤25) (hS:3244+(l.length+n+1)*2168≤512*S) (hcap:3*S≤cap):
  AG Tryz.prog 8 [AM q,.slice A n c,vn] h0 fun v h'=>∃X' D G' l',Db q p S cap (m+n) true l0 l' [] X'∧Lg l'∧l'.length=l.length+n∧Gf B (D++F) v G'∧G'.map nd=Bl l'∧St B h0 h' (X'++(D++F)):=by
 have hLn:=ha.len
 refine Bg Tryz.func8 rfl fun _=>BP ?_
 refine BD (fun s=>n-s.1) (fun s=>[(0,AM q),(1,.slice A n c),(2,s.2),(7,nV s.1)])
  (fun (s:Nat×Value) hp=>s.1≤n∧∃X' D G' l',Db q p S cap (m+s.1) true l0 l' [] X'∧Lg l'∧l'.length=l.length+s.1∧Gf B (D++F) s.2 G'∧G'.map nd=Bl l'∧St B h0 hp (X'++(D++F)))
  (0,vn) (Bt rfl rfl rfl rfl) ⟨Nat.zero_le _,X,[],G,l,hX,hl,rfl,hG,hGf,st0⟩ ?_
 clear st0 hX hl hG hGf
 rintro ⟨i,vi⟩ hp ⟨hi,X,D,G,l',hX,hl,hll,hG,hGf,st⟩
 simp only at hi hX hll hG st ⊢
 refine AP ?_
 refine AK rfl (fun h=> ?_) (fun h=> ?_)
 ·obtain ⟨bb,o,yn,yd,A3,n3,c3,rfl,hm,hget,hl3,hcy⟩:=ha.get (i:=i) (by omega)
  obtain ⟨hyn,hyd⟩:=hok _ hm
  simp only at hyn hyd
  have hLog:=hl.log (by omega)
  have hGl:G.length=(Bl l').length:=by rw [←hGf,z3]
  have hfl:(Bl l').length≤l'.length:=by
   have:=hLog.mems.2
   simpa [Bl,mems]using this
  have hGs:FK Prod.fst G:=by
   have:=WN hLog.mems.1.srt
   rw [←hGf]at this
   unfold FK at this ⊢
   rwa [List.pairwise_map]at this
  have hb1:m+i≤40:=by omega
  have hb2:3244+(l'.length+2)*2168≤512*S:=zw (Nat.add_le_add_left (Nat.mul_le_mul_right 2168 (show l'.length+2≤l.length+n+1 by omega)) _) hS
  clear hS
  have hb3:l'.length≤40:=by omega
  have hb4:G.length≤1000:=by omega
  refine AP ?_
  refine xa (Bp (i:=i) rfl rfl rfl (by omega)) (AC ?_)
  refine xl ((hcy _ st.low).1.1) rfl (AB ?_)
  refine xa (Bp (i:=i) rfl rfl rfl (by omega)) (AC ?_)
  refine xl ((hcy _ st.low).1.2) rfl (AC ?_)
  refine xa (Nh (n:=4) rfl rfl (by omega)) ?_
  refine xa (AZ (ps:=[(0,.int .i64 3),(1,AU yn),(2,.slice A3 n3 c3),(3,nV (i%4))]) (cs:=(BK 3 yn A3 n3 c3 (i%4:Nat) (.slice none 0 0) 0 0).toArray) rfl (by kernel_rfl)) ?_
  refine xk (WR (E:=[]) (F:=D++F) st.here hX hl hb1 hb2 hcap hyn hyd hl3 hb3 (fun h1 _ k _=>(hcy h1 (st.low.trans k)).2)) rfl ?_
  rintro _ hp2 ⟨⟨vd,vs,vf,vg,r,po,rfl⟩,Y,hY,st2⟩
  replace st:=st.trans st2
  simp only [z4]at st
  refine AH ?_
  refine xa (Bp (i:=i) rfl rfl rfl (by omega)) (AC ?_)
  refine xl ((hcy _ st.low).1.1) rfl (AB ?_)
  refine xa (Bp (i:=i) rfl rfl rfl (by omega)) (AC ?_)
  refine xl ((hcy _ st.low).1.2) rfl ?_
  refine xa (Gu (hcy _ st.low).2 rfl hl3 rfl rfl rfl) ?_
  obtain ⟨Ag,ng,cg,rfl,hgl,hgr⟩:=id hG
  obtain ⟨hgr1,hgr2⟩:=hgr _ _ st.here
  refine xk (gj hgr1 hgl (by rw [←hgl];exact hb4) (by omega) (fun x hx=>by obtain ⟨_,_,_,e,_⟩:=hgr2 x hx;rw [e];rfl) hGs) rfl ?_
  rintro v5 hp5 ⟨A5,n5,c5,st5⟩
  obtain ⟨A6,n6,c6,rfl,hl6,_,_,_⟩:=st5.row 0 rfl
  replace st:=(st.join st5).perm (zb [_,_] Y (D++F))
  have hG2:=(hG.ins (A:=A6) (n:=n6) (c:=c6) (A2:=A5) (n2:=n5) (c2:=c5) (nm:=yn) (dt:=yd)).resolve_right (fun h=>h hl6)
  refine AP ?_
  refine Ad (i+1,_) (Bt rfl rfl rfl rfl) ⟨by simp only;omega,Y,_::_::D,_,_,hY,hl.snoc hyn hyd,by simp only [z2,zm];omega,hG2,?_,st⟩ (by simp only;omega)
  rw [O2,←hGf]
  exact NB (nm:=Prod.fst) (nb:=Prod.fst) nd (fun _=>rfl) _ _
 ·refine AO ?_
  obtain rfl:i=n:=by omega
  exact ⟨X,D,G,l',hX,hl,hll,hG,hGf,st⟩
end Go.Bn
end

section
namespace Go.Bn
open Go Proofs
section
variable {P:Program} {E:Au} {hp:AA} {d:Option Tmp} {ty:TypeId} {pos:String} {af:Array Edge} {g:Option (Nat×Bool)} {t:TypeId}
theorem cM {e s b len:Nat} {zs:List Value} {parts:Array (Nat×Operand)} {ps:List (Nat×Value)} (cs:List Value) (hps:GQ E parts.toList=some ps) (ht:DA P t=some (e,s,b,zs)) (hn:Nat.ble (len*s) 16777216=true) (hs:Nat.blt 0 (len*s)=true) (hc:Jv len s zs ps=some cs.toArray) (hl:cs.length=len*s) (hm:len≤1000):
  Bd P ⟨d,.buildSlice t len parts,ty,pos,af,g⟩ E hp (fun u hp'=>EZ (row e s u cs) hp hp'):=by
 intro n a w ho hw K hK
 refine Ly hps ht hn hs hc n a w ho hw K fun v' w' hi ⟨h1,h2⟩=>hK v' w' hi ?_
 rw [h1,h2]
 exact KS hp e s len cs hl (by simp only [maxLen];omega)
end
def Gq (A:Option Addr) (n c:Nat):Nat→List Value
  | 0=>BK 1 [] none 0 0 0 (.slice none 0 0) 0 0
  | 1=>BK 2 [] none 0 0 0 (.slice none 0 0) 0 0
  | 2=>BK 3 [97] A n c 0 (.slice none 0 0) 0 0
  | 3=>BK 12 [] none 0 0 0 (.slice none 0 0) 0 0
  | _=>BK 18 [] none 0 0 0 (.slice none 0 0) 0 0
theorem Pa (A:Option Addr) (n c:Nat) (i:Nat):(Gq A n c i).length=7:=by
 unfold Gq;split <;> rfl
@[reducible] def KE:AS:=⟨[97],[97,98,99],0⟩
theorem Pn:DU [97]:=by
 refine ⟨by decide,fun p hp=> ?_⟩
 rw [Ns (by decide)]at hp
 rw [zo.1 hp]
 exact ⟨fun c hc=>by rw [zo.1 hc];decide,by decide,by decide,by decide⟩
def OT (q p:Nat):Nat→List AE→Prop
  | 0,X=>X=[pt q 51 (BX p (.pointer none)),BF p 60 Dh]
  | 1,X=>X=[pt q 51 (BX p (.pointer none)),BF p 60 (EG Dh (CE []))]
  | 2,X=>Db q p 20 60 0 true [] [] [] X
  | 3,X=>Db q p 20 60 1 true [] [KE] [] X
  | 4,X=>Db q p 20 60 2 true [KE] [KE] [] X
  | _,X=>∃f i d s Y2,f.quiet=true∧f.now B7=some i∧f.dk[i]? =some d∧Et d.now [KE] s∧X=pt q 51 (BX p (.pointer none))::BF p 60 f::Y2
theorem Db.aft {q p S cap m:Nat} {qt:Bool} {l0 l:List AS} {X:List AE} (h:Db q p S cap m qt l0 l [] X):Kq q p cap [l0] X:=by
 obtain ⟨pa,px,ps,id,w,so,s,f,rfl,hI,_⟩:=h
 exact ⟨_,_,_,.cons _ (zb [_,_,_,_] [_] []),hI.set.good,G9⟩
theorem WQ {B q p S cap n c:Nat} {lv cn cf:Int} {A:Option Addr} {vk:Value} {nm:List UInt8} {F:List AE} {h0:AA} (hS:3≤S∧2*S≤cap∧S≤1000) (hcap:cap≤65536) (st0:St B h0 h0 (pt q 51 (BX p (.pointer none))::BF p cap (EG Dh (CE []))::F)) (hvk:Value.one vk=true):
  AG Tryz.prog 7 [AM q,.agg (BK 2 nm A n c lv vk cn cf).toArray] h0 fun v h'=>(∃vd vs vn vf r po,v=Gj 0 vd vs vn vf r po)∧∃Y,Db q p S cap 0 true [] [] [] Y∧St B h0 h' (Y++F):=by
 obtain ⟨d,h1,h2,h3,h4,h5⟩:=aQ hS hcap
 refine AG.mono (Qo st0 h1 h2 h3 h4 (Lg.nil.log (by decide)) hvk) ?_
 rintro v h' ⟨pa,px,ps,w,A6,n6,c6,vd,vs,vn,r,po,_,rfl,t⟩
 exact ⟨⟨_,_,_,_,_,_,rfl⟩,_,⟨pa,px,ps,0,w,Cw 0 [],Cw 1 [],((EG Dh (CE [])).setD 0 d.sync).syncD,rfl,by rw [Nat.zero_mul];exact h5,by simp [Cw],h1⟩,t.tail⟩
theorem fQ {B q p i n c:Nat} {A:Option Addr} {X F:List AE} {h0:AA} (st0:St B h0 h0 (X++(row 5 1 (.slice A n c) (([97,98,99]:List UInt8).map AN)::F))) (hX:OT q p i X) (hi:i<5):
  AG Tryz.prog 7 [AM q,.agg (Gq A n c i).toArray] h0 fun v h'=>(∃vd vs vn vf r po,v=Gj 0 vd vs vn vf r po)∧∃Y,OT q p (i+1) Y∧St B h0 h' (Y++(row 5 1 (.slice A n c) (([97,98,99]:List UInt8).map AN)::F)):=by
 match i,hi,hX with
 | 0,_,hX=>
  subst hX
  refine AG.mono (WP (S:=20) st0 ⟨by decide,by decide⟩ (by decide) rfl) ?_
  rintro v h' ⟨hv,t⟩
  exact ⟨hv,_,rfl,t⟩
 | 1,_,hX=>
  subst hX
  exact WQ ⟨by decide,by decide,by decide⟩ (by decide) st0 rfl
 | 2,_,hX=>
  have hn:n=3:=by
   have:=(st0.rdS X.length (by rw [zh (Nat.le_refl _),Nat.sub_self];rfl)).1
   simpa using this.symm
  refine AG.mono (WR (b:=[97,98,99]) (E:=[row 5 1 (.slice A n c) (([97,98,99]:List UInt8).map AN)]) (F:=F) st0 hX Lg.nil (by decide) (by decide) (by decide) Pn (by decide) hn.symm (by decide) fun h1 G _ s=>(s.rdS 0 rfl).2) ?_
  rintro v h' ⟨hv,Y,hY,t⟩
  exact ⟨hv,Y,hY,t⟩
 | 3,_,hX=>
  exact WS st0 hX (Lg.nil.snoc Pn (by decide)) (by decide) (by decide) (by decide) (by decide)
 | 4,_,hX=>
  refine AG.mono (WO (ks:=[]) st0 (Db.aft hX) rfl (Nat.zero_le _) (by decide) fun _ _=>Rd.nil _ _) ?_
  rintro v h' ⟨hv,f',j,d,x,s,Y2,hx,h1,h2,h3,h4,t⟩
  rw [zo.1 hx]at h4
  exact ⟨hv,_,⟨f',j,d,s,Y2,h1,h2,h3,h4,rfl⟩,t⟩
theorem Zc:Bl [KE]=[([97],[97,98,99])]:=by
 have:=O2 [] KE
 rw [z4]at this
 rw [this]
 simp [Bl,Cf,Fi,Bx]
theorem Ex (h0:AA):AG Tryz.prog 5 [] h0 fun v h'=>v= .bool true∧AV h0 h':=by
 refine Vu Tryz.func5 rfl fun _=>AL ?_
 refine xk (VO (c:=60) (by decide) _) rfl ?_
 rintro _ hp ⟨q,p,rfl,st⟩
 refine By ?_
 refine xa (AZ (ps:=[(0,.int .i64 1)]) (cs:=(Gq none 0 0 0).toArray) rfl (by kernel_rfl)) ?_
 refine xa (AZ (ps:=[(0,.int .i64 2)]) (cs:=(Gq none 0 0 1).toArray) rfl (by kernel_rfl)) ?_
 refine xv (Jk (([97,98,99]:List UInt8).map AN) rfl rfl rfl rfl (by kernel_rfl) rfl) ?_
 rintro _ hp hnew
 replace st:=st.new hnew
 obtain ⟨A,n,c,rfl,hlen,_,_,hrd⟩:=st.row 0 rfl
 obtain rfl:n=3:=by simpa using hlen.symm
 obtain ⟨b1,o1,rfl,_⟩:=hrd.at_ (by decide)
 refine xv (Lz st 0 rfl rfl rfl) ?_
 rintro _ hp ⟨rfl,st⟩
 refine xa (AZ (ps:=[(0,.int .i64 3),(1,AU [97]),(2,.slice (some ⟨b1,o1,none⟩) 3 c)]) (cs:=(Gq (some ⟨b1,o1,none⟩) 3 c 2).toArray) rfl (by kernel_rfl)) ?_
 refine xa (AZ (ps:=[(0,.int .i64 12)]) (cs:=(Gq none 0 0 3).toArray) rfl (by kernel_rfl)) ?_
 refine xa (AZ (ps:=[(0,.int .i64 18)]) (cs:=(Gq none 0 0 4).toArray) rfl (by kernel_rfl)) ?_
 refine xv (cM ([0,1,2,3,4].flatMap (Gq (some ⟨b1,o1,none⟩) 3 c)) rfl rfl rfl rfl (by kernel_rfl) rfl (by decide)) ?_
 rintro _ hp hnew
 replace st:=st.new hnew
 obtain ⟨A2,n2,c2,rfl,hlen2,_,_,hrd2⟩:=st.row 0 rfl
 obtain rfl:n2=5:=by
  rw [EO _ 7 (Pa _ _ _)]at hlen2
  simp only [ze,zk]at hlen2
  omega
 replace st:=st.perm (List.perm_append_comm (l₁:=[_,_]) (l₂:=[_,_])) |>.perm (List.Perm.append_left [_,_] (List.Perm.swap _ _ _))
 refine AP ?_
 refine BD (fun s=>5-s) (fun s=>[(1,AM q),(2,.slice A2 5 c2),(3,nV s)])
  (fun (s:Nat) hp=>s≤5∧∃X,OT q p s X∧St h0.size h0 hp (X++(row 5 1 (.slice (some ⟨b1,o1,none⟩) 3 c) (([97,98,99]:List UInt8).map AN)::[row 28 7 (.slice A2 5 c2) ([0,1,2,3,4].flatMap (Gq (some ⟨b1,o1,none⟩) 3 c))])))
  0 (DJ rfl rfl rfl) ⟨Nat.zero_le _,_,rfl,st⟩ ?_
 clear st hrd hrd2 hnew
 rintro i hp ⟨hi,X,hX,st⟩
 refine AP ?_
 refine AK rfl (fun h=> ?_) (fun h=> ?_)
 ·have hrd2:=(st.rdS (X.length+1) (by rw [zh (by omega),Nat.add_sub_cancel_left];rfl)).2
  obtain ⟨b2,o2,rfl,hc2⟩:=Rd.flat (Gq (some ⟨b1,o1,none⟩) 3 c) 7 hrd2 (Pa _ _ _) (by omega) (by decide)
  have hcx:=hc2 i (by simp only [ze,zk];omega)
  have hii:([0,1,2,3,4]:List Nat)[i]'(by simp only [ze,zk];omega)=i:=by
   have:∀j (h:j<5),([0,1,2,3,4]:List Nat)[j]'(by simpa using h)=j:=by decide
   exact this i (by omega)
  rw [hii]at hcx
  refine AP ?_
  refine xa (Bp (i:=i) rfl rfl rfl (by omega)) ?_
  refine xa (Ai (vs:=Gq (some ⟨b1,o1,none⟩) 3 c i) hcx rfl rfl (Pa _ _ _ i) rfl) ?_
  refine xk (fQ st.here hX (by omega)) rfl ?_
  rintro _ hp2 ⟨⟨vd,vs,vn,vf,r,po,rfl⟩,Y,hY,st2⟩
  replace st:=st.trans st2
  refine AF ?_
  refine AK rfl (fun h=> ?_) (fun h=> ?_)
  ·exact absurd rfl h
  ·refine AO ?_
   exact Ad (i+1) (DJ rfl rfl rfl) ⟨by omega,Y,hY,st⟩ (by omega)
 ·refine AJ ?_
  obtain rfl:i=5:=by omega
  refine xa (AZ (ps:=[(0,.int .i64 2)]) (cs:=(BK 2 [] none 0 0 0 (.slice none 0 0) 0 0).toArray) rfl (by kernel_rfl)) ?_
  obtain ⟨f,j,d,s,Y2,h1,h2,h3,h4,rfl⟩:=hX
  refine xk (Qo (F:=Y2++_) st.here h1 h2 h3 h4 ((Lg.nil.snoc Pn (by decide)).log (by decide)) rfl) rfl ?_
  rintro _ hp2 ⟨pa,px,ps,w,A6,n6,c6,vd,vs,vn,r,po,ho,rfl,st2⟩
  replace st:=st.trans st2
  rw [Zc]at st
  obtain ⟨ws,hws,st⟩:=St.files st
  obtain ⟨w1,rfl⟩:∃w1,ws=[w1]:=by
   match ws,hws with
   | [w1],_=>exact ⟨w1,rfl⟩
  replace st:=St.zip_cons.1 st.sw
  refine xv (CK rfl) ?_
  rintro _ hp ⟨p4,rfl,hnew⟩
  replace st:=st.new hnew
  refine xw (us:=Ce 0 vd vs vn (.slice A6 n6 c6) r po) st 0 ho fun hp st=> ?_
  simp only [z0]at st
  obtain ⟨Aw,nw,cw,rfl,hlw,_,_,hrw⟩:=st.row 1 rfl
  obtain ⟨hl6,hr6⟩:=st.rdS 3 rfl
  obtain rfl:n6=1:=by
   simp only [Ev,ze,zk]at hl6
   omega
  obtain ⟨b6,o6,rfl,hc6⟩:=hr6.at_ (by simp [Ev])
  refine AJ ?_
  refine xc st 0 0 ?_
  refine AB ?_
  refine Am 36 rfl (fun h=> ?_) (fun h=> ?_)
  ·refine AC ?_
   refine xc st 0 4 ?_
   refine AJ ?_
   refine Am 42 rfl (fun h=> ?_) (fun h=> ?_)
   ·refine AC ?_
    refine xc st 0 4 ?_
    refine xa (Bp (i:=0) rfl rfl rfl (by omega)) (AC ?_)
    refine xl (hc6 0 _ rfl) rfl ?_
    refine xa (GS (a:=[97]) (b:=[97]) rfl rfl) (AB ?_)
    refine Am 50 rfl (fun h=> ?_) (fun h=> ?_)
    ·refine AC ?_
     refine xc st 0 4 ?_
     refine xa (Bp (i:=0) rfl rfl rfl (by omega)) (AC ?_)
     refine xl (hc6 1 _ rfl) rfl ?_
     refine xa (Gu hrw rfl (by simpa using hlw) rfl rfl rfl) ?_
     refine xa (GS (a:=[97,98,99]) (b:=[97,98,99]) rfl rfl) (AJ ?_)
     exact ⟨congrArg Value.bool (decide_eq_true rfl),st.low⟩
    ·exact absurd rfl h
   ·exact absurd rfl h
  ·exact absurd rfl h
end Go.Bn
end

section
namespace Go.Bn
open Go Proofs
theorem HD.ext {h h':AA} {q:FV} (k:HD h q) (hx:AV h h'):HD h' q:=by
 obtain ⟨A,m,c,h1,h2,h3⟩:=k
 exact ⟨A,m,c,h1,h2,h3.ext hx⟩
def I4:List (List UInt8×List UInt8)→List Value→List FV
  | (n,d)::r,w::ws=>(n,d,w)::I4 r ws
  | _,_=>[]
theorem RF:∀ (fl:List (List UInt8×List UInt8)) (ws:List Value),DT (I4 fl ws)=Ev fl ws
 | (n,d)::r,w::ws=>by
  have:=RF r ws
  simp only [DT,I4,zt,Ev,fC]at this ⊢
  rw [this];rfl
 | [],ws=>by cases ws <;> rfl
 | _::_,[]=>rfl
theorem XL:∀ {fl:List (List UInt8×List UInt8)} {ws:List Value},fl.length=ws.length→(I4 fl ws).map nd=fl
 | (n,d)::r,w::ws,h=>by
  rw [I4,zj,XL (by simpa using h)];rfl
 | [],[],_=>rfl
 | _::_,[],h=>by simp at h
 | [],_::_,h=>by simp at h
theorem XK {B:Nat} {h0 hp:AA}:∀ {fl:List (List UInt8×List UInt8)} {ws:List Value} {F:List AE},St B h0 hp (C4 H2 ws (fl.map Prod.snd)::F)→∀q∈I4 fl ws,HD hp q
 | (n,d)::r,w::ws,F,st,q,hq=>by
  rw [zj]at st
  have st:=St.zip_cons.1 st
  rw [I4]at hq
  rcases List.mem_cons.1 hq with rfl | hq
  ·obtain ⟨A,m,c,e,hl,_,_,hr⟩:=st.row 0 rfl
   rw [z3,zf]at hl
   exact ⟨A,m,c,e,hl,hr⟩
  ·exact XK st.tail q hq
 | [],ws,_,_,q,hq=>by cases ws <;> cases hq
 | _::_,[],_,_,q,hq=>by cases hq
theorem Zd {B:Nat} {h0 hp:AA} {A:Option Addr} {n c:Nat} {fl:List (List UInt8×List UInt8)} {F:List AE} (st:St B h0 hp (Gn (.slice A n c) fl::F)):∃G:List FV,G.length=n∧G.map nd=fl∧Rd hp A (DT G)∧∀q∈G,HD hp q:=by
 obtain ⟨ws,hws,st⟩:=St.files st
 obtain ⟨hl,hr⟩:=st.rdS 0 rfl
 refine ⟨I4 fl ws,?_,XL hws,by rw [RF];exact hr,XK st.tail⟩
 rw [←RF,Ig]at hl
 omega
@[reducible] def KT (k:Int) (nm:List UInt8) (A:Option Addr) (n c:Nat) (lv:Int) (Ae:Option Addr) (ne ce:Nat) (en ef cut:Int) (Ak:Option Addr) (kn kc:Nat) (cn cf:Int):List Value:=[.int .i64 k,AU nm,.slice A n c,.int .i64 lv,.slice Ae ne ce,.int .i64 en,.int .u8 ef,.int .i64 cut,.slice Ak kn kc,.int .i64 cn,.int .u8 cf]
theorem YD {n1 c1 n2 c2 n c ne ce kn kc:Nat} {A1 A2 A Ae Ak:Option Addr} {L1 L2:List FV} {k lv en ef cut cn cf:Int} {nm b:List UInt8} {ks:List Bool} {h0:AA} (ha:Hs h0.size h0 A1 n1 L1) (hb:Hs h0.size h0 A2 n2 L2)
  (hr:Rd h0 A (b.map AN)) (hbn:b.length=n) (hk:Rd h0 Ak (ks.map Value.bool)) (hkn:ks.length=kn) (hkc:kn≤kc):
  AG Tryz.prog 3 [.slice A1 n1 c1,.slice A2 n2 c2,.agg (KT k nm A n c lv Ae ne ce en ef cut Ak kn kc cn cf).toArray] h0 fun v h'=>v= .bool true∧AV h0 h':=by
 refine Bg Tryz.func3 rfl fun _=>AB ?_
 refine xv (Bv (cs:=KT k nm A n c lv Ae ne ce en ef cut Ak kn kc cn cf) rfl rfl) ?_
 rintro _ hp1 ⟨p5,rfl,hnew⟩
 have stb:=(St.start h0).new hnew
 have hlo:∀ {h1:AA},AV hp1 h1→AV h0 h1:=fun x=>stb.low.then_ext (Nat.le_refl _) x
 have hB:=stb.low.size
 have hc5:∀ {h1:AA},AV hp1 h1→∀j u,(KT k nm A n c lv Ae ne ce en ef cut Ak kn kc cn cf)[j]? =some u→Az h1 ⟨p5,0+j,none⟩=some u:=fun x j u hu=>Bz x (stb.cells 0 rfl j u hu)
 have st:=St.start hp1
 refine AL ?_
 refine xk (Sm (ha.at_ (hlo st.low) (zw hB st.low.size))) rfl ?_
 rintro _ hp2 ⟨⟨b1,rfl,hf1⟩,hx⟩
 refine AT (.bool (decide (b1=true))) (congrArg Value.bool (by cases b1 <;> rfl)) ?_
 replace st:=st.ext hx
 refine AB ?_
 refine Am 16 rfl (fun h=> ?_) (fun h=> ?_)
 ·refine XO ?_
  refine AJ ?_
  refine xk (Ex _) rfl ?_
  rintro _ hp3 ⟨rfl,hx3⟩
  replace st:=st.ext hx3
  refine AF ?_
  exact ⟨rfl,hlo st.low⟩
 ·obtain ⟨hn1,hok1⟩:=hf1 (by cases b1 with
   | true=>rfl
   | false=>exact absurd (by decide) h)
  refine AC ?_
  refine xk (Sm (hb.at_ (hlo st.low) (zw hB st.low.size))) rfl ?_
  rintro _ hp2 ⟨⟨b2,rfl,hf2⟩,hx⟩
  refine AT (.bool (decide (b2=true))) (congrArg Value.bool (by cases b2 <;> rfl)) ?_
  replace st:=st.ext hx
  refine AF ?_
  refine Am 21 rfl (fun h=> ?_) (fun h=> ?_)
  ·refine iP ?_
   refine xk (Ex _) rfl ?_
   rintro _ hp3 ⟨rfl,hx3⟩
   replace st:=st.ext hx3
   refine AF ?_
   exact ⟨rfl,hlo st.low⟩
  ·obtain ⟨hn2,hok2⟩:=hf2 (by cases b2 with
    | true=>rfl
    | false=>exact absurd (by decide) h)
   refine AC ?_
   refine xl (hc5 st.low 7 _ rfl) rfl (AF ?_)
   refine Am 26 rfl (fun h=> ?_) (fun h=> ?_)
   ·refine RI ?_
    refine xk (Ex _) rfl ?_
    rintro _ hp3 ⟨rfl,hx3⟩
    replace st:=st.ext hx3
    refine AF ?_
    exact ⟨rfl,hlo st.low⟩
   ·have hcut0:=h
    refine AC ?_
    refine xl (hc5 st.low 7 _ rfl) rfl (AF ?_)
    refine Am 31 rfl (fun h=> ?_) (fun h=> ?_)
    ·refine RH ?_
     refine xk (Ex _) rfl ?_
     rintro _ hp3 ⟨rfl,hx3⟩
     replace st:=st.ext hx3
     refine AF ?_
     exact ⟨rfl,hlo st.low⟩
    ·have hcut1:=h
     refine AB ?_
     refine xl (hc5 st.low 2 _ rfl) rfl (AJ ?_)
     refine Am 38 rfl (fun h=> ?_) (fun h=> ?_)
     ·refine IU ?_
      refine xk (Ex _) rfl ?_
      rintro _ hp3 ⟨rfl,hx3⟩
      replace st:=st.ext hx3
      refine AF ?_
      exact ⟨rfl,hlo st.low⟩
     ·have hn:n≤2000:=by
       have h':¬ ((2000:Int) < (n:Int)):=h
       omega
      refine AB ?_
      refine xl (hc5 st.low 8 _ rfl) rfl (AJ ?_)
      refine Am 45 rfl (fun h=> ?_) (fun h=> ?_)
      ·refine Cp ?_
       refine xk (Ex _) rfl ?_
       rintro _ hp3 ⟨rfl,hx3⟩
       replace st:=st.ext hx3
       refine AF ?_
       exact ⟨rfl,hlo st.low⟩
      ·have hkn2:kn≤2000:=by
        have h':¬ ((2000:Int) < (kn:Int)):=h
        omega
       refine AB ?_
       refine xl (hc5 st.low 0 _ rfl) rfl (AF ?_)
       refine Am 51 rfl (fun h=> ?_) (fun h=> ?_)
       ·refine Aj ?_
        refine xk (Ex _) rfl ?_
        rintro _ hp3 ⟨rfl,hx3⟩
        replace st:=st.ext hx3
        refine AF ?_
        exact ⟨rfl,hlo st.low⟩
       ·have hk3:=h
        refine AB ?_
        refine xl (hc5 st.low 0 _ rfl) rfl (AF ?_)
        refine AK rfl (fun h=> ?_) (fun h=> ?_)
        ·refine AB ?_
         refine xk (Ex _) rfl ?_
         rintro _ hp3 ⟨rfl,hx3⟩
         replace st:=st.ext hx3
         refine AF ?_
         exact ⟨rfl,hlo st.low⟩
        ·have hk15:=h
         refine AF ?_
         refine xk (VO (c:=60000) (by decide) _) rfl ?_
         rintro _ hp4 ⟨q,p,rfl,st4⟩
         replace st:=st.join st4
         simp only [List.append_nil]at st
         refine Aj ?_
         refine xa (AZ (ps:=[(0,.int .i64 1)]) (cs:=(BK 1 [] none 0 0 0 (.slice none 0 0) 0 0).toArray) rfl (by kernel_rfl)) ?_
         refine xk (WP (S:=118) (F:=[]) st.here ⟨by decide,by decide⟩ (by decide) rfl) rfl ?_
         rintro _ hp5 ⟨⟨vd,vs,vn,vf,r,po,rfl⟩,st2⟩
         replace st:=st.trans st2
         refine AJ ?_
         refine Am 68 rfl (fun h=> ?_) (fun h=> ?_)
         ·exact absurd rfl h
         ·refine AC ?_
          refine xa (AZ (ps:=[(0,.int .i64 2)]) (cs:=(BK 2 [] none 0 0 0 (.slice none 0 0) 0 0).toArray) rfl (by kernel_rfl)) ?_
          refine xk (WQ (S:=118) (F:=[]) ⟨by decide,by decide,by decide⟩ (by decide) st.here rfl) rfl ?_
          rintro _ hp6 ⟨⟨vd2,vs2,vn2,vf2,r2,po2,rfl⟩,X0,hX0,st2⟩
          replace st:=st.trans st2
          refine AJ ?_
          refine AK rfl (fun h=> ?_) (fun h=> ?_)
          ·exact absurd rfl h
          ·refine AH ?_
           refine xk (VW (F:=[]) st.here hX0 Lg.nil (ha.at_ (hlo st.low) (zw hB (Nat.le_refl _))) hok1 Gf.nil (by simp [Bl,Cf,Fi]) (by omega) (by simp only [zk];omega) (by simp only [zk];omega) (by decide)) rfl ?_
           rintro _ hp7 ⟨X1,D1,G1,l1,hX1,hl1,hll1,hG1,hGf1,st2⟩
           replace st:=st.trans st2
           simp only [zk,Nat.zero_add]at hll1 hX1
           refine AL ?_
           refine xa (AZ (ps:=[(0,.int .i64 12)]) (cs:=(BK 12 [] none 0 0 0 (.slice none 0 0) 0 0).toArray) rfl (by kernel_rfl)) ?_
           refine xk (WS (F:=D1++[]) st.here hX1 hl1 (by omega) (by omega) (by decide) (by omega)) rfl ?_
           rintro _ hp8 ⟨⟨vd3,vs3,vn3,vf3,r3,po3,rfl⟩,X2,hX2,st2⟩
           replace st:=st.trans st2
           refine AF ?_
           refine AK rfl (fun h=> ?_) (fun h=> ?_)
           ·exact absurd rfl h
           ·refine AL ?_
            refine xk (VW (F:=D1++[]) st.here hX2 hl1 (hb.at_ (hlo st.low) (zw hB (Nat.le_refl _))) hok2 hG1 hGf1 (by omega) (by omega) (by omega) (by decide)) rfl ?_
            rintro _ hp9 ⟨X3,D2,G2,l2,hX3,hl2,hll2,hG2,hGf2,st2⟩
            replace st:=st.trans st2
            refine AL ?_
            refine xl (hc5 st.low 7 _ rfl) rfl ?_
            refine xa (AZ (ps:=[(0,.int .i64 17),(3,.int .i64 cut)]) (cs:=(BK 17 [] none 0 0 cut (.slice none 0 0) 0 0).toArray) rfl (by kernel_rfl)) ?_
            refine xk (fP (F:=D2++(D1++[])) st.here hX3 ⟨by omega,by omega⟩ rfl) rfl ?_
            rintro _ hp10 ⟨⟨vd4,vs4,vn4,vf4,r4,po4,rfl⟩,X4,hX4,st2⟩
            replace st:=st.trans st2
            refine AH ?_
            refine xa (Ai (vs:=BK k nm A n c lv (.slice Ae ne ce) en ef) (fun j u hu=>Bz st.low (stb.part 0 0 [] (BK k nm A n c lv (.slice Ae ne ce) en ef) [.int .i64 cut,.slice Ak kn kc,.int .i64 cn,.int .u8 cf] rfl rfl j u hu)) rfl rfl rfl rfl) ?_
            refine xk (fO (b:=b) (F:=D2++(D1++[])) st.here hX4 hl1 hl2 (by omega) (by omega) (by decide) (by omega) (by omega) hn hbn ⟨by omega,by omega⟩ rfl (fun h1 x=>hr.ext (hlo (st.low.trans x)))) rfl ?_
            rintro _ hp11 ⟨e,vd5,vs5,vn5,vf5,r5,po5,X5,LL,rfl,hA5,hO,st2⟩
            replace st:=st.trans st2
            refine AO ?_
            refine xa (Ai (vs:=[.slice Ak kn kc,.int .i64 cn,.int .u8 cf]) (fun j u hu=>Bz st.low (stb.part 0 8 (BK k nm A n c lv (.slice Ae ne ce) en ef++[.int .i64 cut]) [.slice Ak kn kc,.int .i64 cn,.int .u8 cf] [] rfl rfl j u hu)) rfl rfl rfl rfl) ?_
            refine xa (AZ (ps:=[(0,.int .i64 18),(4,.agg #[.slice Ak kn kc,.int .i64 cn,.int .u8 cf])]) (cs:=(BK 18 [] none 0 0 0 (.slice Ak kn kc) cn cf).toArray) rfl (by kernel_rfl)) ?_
            refine xk (WO (F:=D2++(D1++[])) st.here hA5 hkn hkc (by omega) (fun h1 x=>hk.ext (hlo (st.low.trans x)))) rfl ?_
            rintro _ hp12 ⟨⟨vd6,vs6,vn6,vf6,r6,po6,rfl⟩,f',i,d,x,s,Y2,hxL,hq,hN,hd,hG,st2⟩
            replace st:=st.trans st2
            have hLx:=hO.log x hxL
            refine AJ ?_
            refine xa (AZ (ps:=[(0,.int .i64 2)]) (cs:=(BK 2 [] none 0 0 0 (.slice none 0 0) 0 0).toArray) rfl (by kernel_rfl)) ?_
            refine xk (Qo (F:=Y2++(D2++(D1++[]))) st.here hq hN hd hG hLx rfl) rfl ?_
            rintro _ hp13 ⟨pa,px,ps,w,A6,n6,c6,vd7,vs7,vn7,r7,po7,ho7,rfl,st2⟩
            replace st:=st.trans st2
            obtain ⟨Z2,st⟩:∃Z2,St hp1.size hp1 hp13 (Gn (.slice A6 n6 c6) (Bl x)::(Z2++(D2++(D1++[])))):=⟨pt q 51 (BX p (AM pa))::B9 pa px ps p 60000 i (1024+(AX x).length) s false true w (mems x) (f'.setD i d.sync).syncD Y2,st⟩
            clear st2
            refine xv (CK rfl) ?_
            rintro _ hp14 ⟨p11,rfl,hnew2⟩
            replace st:=st.new hnew2
            refine xw (us:=Ce 0 vd7 vs7 vn7 (.slice A6 n6 c6) r7 po7) st 0 ho7 fun hp st=> ?_
            simp only [z0]at st
            obtain ⟨G6,hl6,hnd6,hr6,hd6⟩:=Zd st.tail
            have hn6:n6≤1000000:=by
             have h1:=hLx.mems.1.len
             have h2:=congrArg List.length hnd6
             rw [z3]at h2
             simp only [Bl,mems,z3]at h1 h2
             omega
            obtain ⟨A7,n7,c7,rfl,hl7,hg7⟩:=hG1.app (D:=D2)
            obtain ⟨A8,n8,c8,rfl,hl8,hg8⟩:=hG2
            obtain ⟨hr7,hd7⟩:=hg7 _ (_::_::Z2) st.here
            obtain ⟨hr8,hd8⟩:=hg8 _ (_::_::Z2) st.here
            have hone:=hO.one x hxL
            have hsafe:=hO.safe
            refine AH ?_
            refine xc st 0 0 ?_
            refine AB ?_
            refine AK rfl (fun h=> ?_) (fun h=> ?_)
            ·exact absurd rfl h
            ·refine AH ?_
             refine xl (hc5 st.low 0 _ rfl) rfl (AB ?_)
             refine Am 112 rfl (fun h=> ?_) (fun h=> ?_)
             ·have hs3:k=12∨k=13∨k=14:= .inl h
              refine IU ?_
              refine AK rfl (fun h=> ?_) (fun h=> ?_)
              ·refine AF ?_
               refine xc st 0 4 ?_
               refine AC ?_
               refine xk (Hn hr6 hr8 hl6 hl8 hn6 hd6 hd8) rfl ?_
               rintro _ _ ⟨⟨bb,rfl,hbb⟩,rfl⟩
               obtain rfl:bb=true:=hbb (by rw [hnd6,hGf2];exact hsafe hs3 (by omega) x hxL)
               refine AC ?_
               refine xk (Ex _) rfl ?_
               rintro _ hp3 ⟨rfl,hx3⟩
               replace st:=st.ext hx3
               refine AJ ?_
               exact ⟨rfl,hlo st.low⟩
              ·refine AJ ?_
               refine xc st 0 4 ?_
               refine AC ?_
               refine xk (Hn hr6 hr7 hl6 hl7 hn6 hd6 hd7) rfl ?_
               rintro _ _ ⟨⟨bb,rfl,hbb⟩,rfl⟩
               refine AT (.bool (decide (bb=true))) (congrArg Value.bool (by cases bb <;> rfl)) ?_
               refine AC ?_
               refine Am 140 rfl (fun h=> ?_) (fun h=> ?_)
               ·refine Aj ?_
                refine xk (Ex _) rfl ?_
                rintro _ hp3 ⟨rfl,hx3⟩
                replace st:=st.ext hx3
                refine AJ ?_
                exact ⟨rfl,hlo st.low⟩
               ·have hsf:=hone.resolve_left (fun e=>h (hbb (by rw [hnd6,hGf1];exact e)))
                refine AF ?_
                refine xc st 0 4 ?_
                refine AC ?_
                refine xk (Hn hr6 hr8 hl6 hl8 hn6 hd6 hd8) rfl ?_
                rintro _ _ ⟨⟨b9,rfl,hb9⟩,rfl⟩
                obtain rfl:b9=true:=hb9 (by rw [hnd6,hGf2];exact hsf.2)
                refine AF ?_
                refine xk (Ex _) rfl ?_
                rintro _ hp3 ⟨rfl,hx3⟩
                replace st:=st.ext hx3
                refine AJ ?_
                exact ⟨rfl,hlo st.low⟩
             ·have hk12:k≠12:=h
              refine AB ?_
              refine xl (hc5 st.low 0 _ rfl) rfl (AF ?_)
              refine Am 118 rfl (fun h=> ?_) (fun h=> ?_)
              ·have hs3:k=12∨k=13∨k=14:= .inr (.inl h)
               refine Bb ?_
               refine AK rfl (fun h=> ?_) (fun h=> ?_)
               ·refine AF ?_
                refine xc st 0 4 ?_
                refine AC ?_
                refine xk (Hn hr6 hr8 hl6 hl8 hn6 hd6 hd8) rfl ?_
                rintro _ _ ⟨⟨bb,rfl,hbb⟩,rfl⟩
                obtain rfl:bb=true:=hbb (by rw [hnd6,hGf2];exact hsafe hs3 (by omega) x hxL)
                refine AC ?_
                refine xk (Ex _) rfl ?_
                rintro _ hp3 ⟨rfl,hx3⟩
                replace st:=st.ext hx3
                refine AJ ?_
                exact ⟨rfl,hlo st.low⟩
               ·refine AJ ?_
                refine xc st 0 4 ?_
                refine AC ?_
                refine xk (Hn hr6 hr7 hl6 hl7 hn6 hd6 hd7) rfl ?_
                rintro _ _ ⟨⟨bb,rfl,hbb⟩,rfl⟩
                refine AT (.bool (decide (bb=true))) (congrArg Value.bool (by cases bb <;> rfl)) ?_
                refine AC ?_
                refine Am 140 rfl (fun h=> ?_) (fun h=> ?_)
                ·refine Aj ?_
                 refine xk (Ex _) rfl ?_
                 rintro _ hp3 ⟨rfl,hx3⟩
                 replace st:=st.ext hx3
                 refine AJ ?_
                 exact ⟨rfl,hlo st.low⟩
                ·have hsf:=hone.resolve_left (fun e=>h (hbb (by rw [hnd6,hGf1];exact e)))
                 refine AF ?_
                 refine xc st 0 4 ?_
                 refine AC ?_
                 refine xk (Hn hr6 hr8 hl6 hl8 hn6 hd6 hd8) rfl ?_
                 rintro _ _ ⟨⟨b9,rfl,hb9⟩,rfl⟩
                 obtain rfl:b9=true:=hb9 (by rw [hnd6,hGf2];exact hsf.2)
                 refine AF ?_
                 refine xk (Ex _) rfl ?_
                 rintro _ hp3 ⟨rfl,hx3⟩
                 replace st:=st.ext hx3
                 refine AJ ?_
                 exact ⟨rfl,hlo st.low⟩
              ·have hk13:k≠13:=h
               refine AB ?_
               refine xl (hc5 st.low 0 _ rfl) rfl (Aj ?_)
               refine Am 125 rfl (fun h=> ?_) (fun h=> ?_)
               ·have hs3:k=12∨k=13∨k=14:= .inr (.inr h)
                refine AJ ?_
                refine AK rfl (fun h=> ?_) (fun h=> ?_)
                ·refine AF ?_
                 refine xc st 0 4 ?_
                 refine AC ?_
                 refine xk (Hn hr6 hr8 hl6 hl8 hn6 hd6 hd8) rfl ?_
                 rintro _ _ ⟨⟨bb,rfl,hbb⟩,rfl⟩
                 obtain rfl:bb=true:=hbb (by rw [hnd6,hGf2];exact hsafe hs3 (by omega) x hxL)
                 refine AC ?_
                 refine xk (Ex _) rfl ?_
                 rintro _ hp3 ⟨rfl,hx3⟩
                 replace st:=st.ext hx3
                 refine AJ ?_
                 exact ⟨rfl,hlo st.low⟩
                ·refine AJ ?_
                 refine xc st 0 4 ?_
                 refine AC ?_
                 refine xk (Hn hr6 hr7 hl6 hl7 hn6 hd6 hd7) rfl ?_
                 rintro _ _ ⟨⟨bb,rfl,hbb⟩,rfl⟩
                 refine AT (.bool (decide (bb=true))) (congrArg Value.bool (by cases bb <;> rfl)) ?_
                 refine AC ?_
                 refine Am 140 rfl (fun h=> ?_) (fun h=> ?_)
                 ·refine Aj ?_
                  refine xk (Ex _) rfl ?_
                  rintro _ hp3 ⟨rfl,hx3⟩
                  replace st:=st.ext hx3
                  refine AJ ?_
                  exact ⟨rfl,hlo st.low⟩
                 ·have hsf:=hone.resolve_left (fun e=>h (hbb (by rw [hnd6,hGf1];exact e)))
                  refine AB ?_
                  refine Am 142 rfl (fun h=> ?_) (fun h=> ?_)
                  ·refine AC ?_
                   refine xc st 0 4 ?_
                   refine AC ?_
                   refine xk (Hn hr6 hr8 hl6 hl8 hn6 hd6 hd8) rfl ?_
                   rintro _ _ ⟨⟨b9,rfl,hb9⟩,rfl⟩
                   obtain rfl:b9=true:=hb9 (by rw [hnd6,hGf2];exact hsf.2)
                   refine AF ?_
                   refine xk (Ex _) rfl ?_
                   rintro _ hp3 ⟨rfl,hx3⟩
                   replace st:=st.ext hx3
                   refine AJ ?_
                   exact ⟨rfl,hlo st.low⟩
                  ·exfalso
                   have h':¬k=14:=h
                   omega
               ·have hk14:k≠14:=h
                refine Aj ?_
                refine xc st 0 4 ?_
                refine AC ?_
                refine xk (Hn hr6 hr7 hl6 hl7 hn6 hd6 hd7) rfl ?_
                rintro _ _ ⟨⟨bb,rfl,hbb⟩,rfl⟩
                refine AT (.bool (decide (bb=true))) (congrArg Value.bool (by cases bb <;> rfl)) ?_
                refine AC ?_
                refine Am 140 rfl (fun h=> ?_) (fun h=> ?_)
                ·refine Aj ?_
                 refine xk (Ex _) rfl ?_
                 rintro _ hp3 ⟨rfl,hx3⟩
                 replace st:=st.ext hx3
                 refine AJ ?_
                 exact ⟨rfl,hlo st.low⟩
                ·have hsf:=hone.resolve_left (fun e=>h (hbb (by rw [hnd6,hGf1];exact e)))
                 exfalso
                 omega
end Go.Bn
end

section
namespace Go.Bn
open Go Go.ChangeShapes Go.WideShapes Go.Deep
theorem WT (s:ByteArray):str s.data.toList=s:=by
 apply ByteArray.ext
 simp [str]
theorem UR {hp:AA} {d:Nat} {v:Value} (h:Dz hp d (.sl [.b]) v):∃ (A:Option Addr) (n c:Nat) (l:List Bool),v= .slice A n c∧n≤c∧c≤maxLen∧l.length=n∧Rd hp A (l.map Value.bool):=by
 cases d with
 | zero=>exact h.elim
 | succ d=>
  obtain ⟨A,n,c,rfl,h1,h2,ll,h3,h4,h5⟩:=h
  have key:∀ll:List (List Value),(∀x∈ll,Ea (Dz hp d) [.b] x)→∃l:List Bool,l.length=ll.length∧ll.flatten=l.map Value.bool:=by
   intro ll
   induction ll with
   | nil=>intro _;exact ⟨[],rfl,rfl⟩
   | cons x r ih=>
    intro hx
    obtain ⟨l,e1,e2⟩:=ih fun y hy=>hx y (zq _ hy)
    obtain ⟨v,rr,rfl,hv,hn⟩:=Fa (hx x zp)
    obtain rfl:=Md hn
    obtain ⟨b,rfl⟩:=bm hv
    exact ⟨b::l,by simp [e1],by simp [e2]⟩
  obtain ⟨l,e1,e2⟩:=key ll h5
  exact ⟨A,n,c,l,rfl,h1,h2,by omega,by rw [←e2];exact h4⟩
theorem UT {hp:AA} {d:Nat} {v:Value} (h:Dz hp d (.sl [.str,.sl [.i .u8]]) v):
  ∃ (A:Option Addr) (n c:Nat) (L:List FV),v= .slice A n c∧L.length=n∧Rd hp A (DT L)∧∀q∈L,HD hp q:=by
 cases d with
 | zero=>exact h.elim
 | succ d=>
  obtain ⟨A,n,c,rfl,h1,h2,ll,h3,h4,h5⟩:=h
  have key:∀ll:List (List Value),(∀x∈ll,Ea (Dz hp d) [.str,.sl [.i .u8]] x)→∃L:List FV,L.length=ll.length∧ll.flatten=DT L∧∀q∈L,HD hp q:=by
   intro ll
   induction ll with
   | nil=>intro _;exact ⟨[],rfl,rfl,fun _ h=>by cases h⟩
   | cons x r ih=>
    intro hx
    obtain ⟨L,e1,e2,e3⟩:=ih fun y hy=>hx y (zq _ hy)
    obtain ⟨v1,r1,rfl,s1,h1⟩:=Fa (hx x zp)
    obtain ⟨v2,r2,rfl,s2,h2⟩:=Fa h1
    obtain rfl:=Md h2
    obtain ⟨nm,rfl,_⟩:=UV s1
    obtain ⟨A,n,c,l,rfl,_,_,hl,hr⟩:=US s2
    refine ⟨(nm.data.toList,l,.slice A n c)::L,by simp [e1],?_,fun q hq=> ?_⟩
    ·rw [List.flatten_cons,e2]
     simp only [DT,zt,fC,AU,WT]
    ·rcases List.mem_cons.1 hq with rfl | hq
     ·exact ⟨A,n,c,rfl,hl,hr⟩
     ·exact e3 q hq
  obtain ⟨L,e1,e2,e3⟩:=key ll h5
  exact ⟨A,n,c,L,rfl,by omega,by rw [←e2];exact h4,e3⟩
theorem bo {hp:AA} {d:Nat} {cs:List Value} (h:Ea (Dz hp d) [.i .i64,.str,.sl [.i .u8],.i .i64,.sl [.b],.i .i64,.i .u8,.i .i64,.sl [.b],.i .i64,.i .u8] cs):
  ∃ (k lv en ef cut cn cf:Int) (nm b:List UInt8) (ks:List Bool) (A Ae Ak:Option Addr) (n c ne ce kn kc:Nat),cs=KT k nm A n c lv Ae ne ce en ef cut Ak kn kc cn cf∧Rd hp A (b.map AN)∧b.length=n∧Rd hp Ak (ks.map Value.bool)∧ks.length=kn∧kn≤kc:=by
 obtain ⟨v1,r1,rfl,s1,h1⟩:=Fa h
 obtain ⟨v2,r2,rfl,s2,h2⟩:=Fa h1
 obtain ⟨v3,r3,rfl,s3,h3⟩:=Fa h2
 obtain ⟨v4,r4,rfl,s4,h4⟩:=Fa h3
 obtain ⟨v5,r5,rfl,s5,h5⟩:=Fa h4
 obtain ⟨v6,r6,rfl,s6,h6⟩:=Fa h5
 obtain ⟨v7,r7,rfl,s7,h7⟩:=Fa h6
 obtain ⟨v8,r8,rfl,s8,h8⟩:=Fa h7
 obtain ⟨v9,r9,rfl,s9,h9⟩:=Fa h8
 obtain ⟨v10,r10,rfl,s10,h10⟩:=Fa h9
 obtain ⟨v11,r11,rfl,s11,h11⟩:=Fa h10
 obtain rfl:=Md h11
 obtain ⟨k,rfl,_⟩:=Jd s1
 obtain ⟨nm,rfl,_⟩:=UV s2
 obtain ⟨A,n,c,b,rfl,_,_,hb,hr⟩:=US s3
 obtain ⟨lv,rfl,_⟩:=Jd s4
 obtain ⟨Ae,ne,ce,_,rfl,_⟩:=UR s5
 obtain ⟨en,rfl,_⟩:=Jd s6
 obtain ⟨ef,rfl,_⟩:=Jd s7
 obtain ⟨cut,rfl,_⟩:=Jd s8
 obtain ⟨Ak,kn,kc,ks,rfl,hkc,_,hkn,hk⟩:=UR s9
 obtain ⟨cn,rfl,_⟩:=Jd s10
 obtain ⟨cf,rfl,_⟩:=Jd s11
 exact ⟨k,lv,en,ef,cut,cn,cf,nm.data.toList,b,ks,A,Ae,Ak,n,c,ne,ce,kn,kc,by simp only [KT,AU,WT],hr,hb,hk,hkn,hkc⟩
end Go.Bn
end

section
namespace Go.Proofs.YtcakpngelbhkfaaGreatDoor.topBetween
theorem and_t {a b:Bool} (h:a=true) (k:b=true):(a&&b)=true:=by rw [h,k];rfl
theorem j1:(laidOutB Tryz.prog)=true:=by kernel_rfl
theorem j2:(mapsRowed Tryz.prog)=true:=by kernel_rfl
theorem j9:(Rows.topBetweenRow.inPlace==Tryz.prog.inPlace 3)=true:=by kernel_rfl
theorem j10:(Rows.topBetweenRow.unfollowed==Tryz.prog.unfollowed 3)=true:=by kernel_rfl
theorem j11:(Rows.topBetweenRow.recurses==Tryz.prog.recurses 3)=true:=by kernel_rfl
theorem j12:(Rows.topBetweenRow.named==Tryz.prog.varsNamed 3)=true:=by kernel_rfl
theorem j22:(Rows.topBetweenRow.plainKeys==Tryz.prog.plainKeys)=true:=by kernel_rfl
theorem j24:(Tryz.prog.stopsHeard)=true:=by kernel_rfl
theorem j25:(Tryz.prog.mayEnter)=true:=by kernel_rfl
theorem joined:joinedFacts Tryz.prog 3 Tryz.f3 Rows.topBetweenSpec Rows.topBetweenRow=true:=by
 unfold joinedFacts
 exact and_t (and_t (and_t (and_t (and_t (and_t (and_t (and_t (and_t (and_t (and_t (and_t (and_t (and_t (and_t (and_t (and_t (and_t (and_t (and_t (and_t (and_t (and_t (and_t (and_t (and_t (and_t (and_t (and_t (and_t (and_t (by kernel_rfl) j1) j2) (by kernel_rfl)) (by kernel_rfl)) (by kernel_rfl)) (by kernel_rfl)) (by kernel_rfl)) (by kernel_rfl)) j9) j10) j11) j12) (by kernel_rfl)) (by kernel_rfl)) (by kernel_rfl)) (by kernel_rfl)) (by kernel_rfl)) (by kernel_rfl)) (by kernel_rfl)) (by kernel_rfl)) (by kernel_rfl)) j22) (by kernel_rfl)) j24) j25) (by kernel_rfl)) (by kernel_rfl)) (by kernel_rfl)) (by kernel_rfl)) (by kernel_rfl)) (by kernel_rfl)
end Go.Proofs.YtcakpngelbhkfaaGreatDoor.topBetween
end

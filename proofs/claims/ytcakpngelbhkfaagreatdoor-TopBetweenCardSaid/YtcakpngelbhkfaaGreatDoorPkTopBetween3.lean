/- Packed texts of a claim: what its theorem uses, joined. -/
import Derived.ProofKit
import Derived.OpenShut
import Derived.ShutString
import Derived.ChangeOld
import Derived.SizedLaws
import Derived.ChangeSlices
import Derived.Deep.Slices
import Derived.Test.YtcakpngelbhkfaaGreatDoorPkTopBetween2
set_option maxRecDepth 100000
set_option maxHeartbeats 4000000
set_option linter.unusedVariables false
set_option linter.unusedSimpArgs false
set_option linter.unusedSectionVars false
set_option linter.defProp false
section
namespace Go.Bn
open Go
def Fm (hp:AA) (p:Nat) (o:Obj):AA:=hp.setIfInBounds p o
theorem db (hp:AA) (p:Nat) (o:Obj):(Fm hp p o).size=hp.size:=by simp [Fm]
theorem da {hp:AA} {p:Nat} (o:Obj) (h:p<hp.size):(Fm hp p o)[p]? =some o:=by simp [Fm,h]
theorem dZ {hp:AA} {p k:Nat} (o:Obj) (h:k≠p):(Fm hp p o)[k]? =hp[k]? :=by
 simp only [Fm];rw [Array.getElem?_setIfInBounds_ne (Ne.symm h)]
theorem MJ (hp:AA) (d:Nat):Es hp d=Fm hp d (.deferred none):=rfl
def BG (p:Nat) (o:Obj):AE where
  P h S:=(∀k,S k↔k=p)∧h[p]? =some o
  loc:=by rintro h h' S ⟨hS,hx⟩ he;exact ⟨hS,by rw [he p ((hS p).2 rfl)];exact hx⟩
  lt:=by rintro h S ⟨hS,hx⟩ k hk;rw [(hS k).1 hk];exact (Array.getElem?_eq_some_iff.1 hx).1
theorem f4 {p:Nat} {o:Obj} (o':Obj) {hp:AA}:HR (BG p o) hp (BG p o') (Fm hp p o'):=by
 refine ⟨by rw [db];exact Nat.le_refl _,fun S ⟨hS,h⟩=>⟨S,⟨hS,da _ (Array.getElem?_eq_some_iff.1 h).1⟩,fun k hk=> .inl hk,fun k _ hk=>dZ _ (fun e=>hk ((hS k).2 e))⟩⟩
theorem Ik (o:Obj) (hp:AA):EZ (BG hp.size o) hp (hp.push o):=by
 refine ⟨⟨by simp,fun k hk=>by rw [Array.getElem?_push];rw [if_neg (by omega)]⟩,fun k=>k=hp.size,⟨fun _=>Iff.rfl,by simp⟩,fun k hk=>by omega⟩
theorem St.obj_at {B:Nat} {h0 hp:AA} {rs:List AE} (s:St B h0 hp rs) (j:Nat) {p:Nat} {o:Obj} (hj:rs[j]? =some (BG p o)):hp[p]? =some o:=by
 obtain ⟨S,h,_⟩:=s.at_ hj;exact h.2
theorem St.put {B:Nat} {h0 hp:AA} {rs:List AE} (s:St B h0 hp rs) (j:Nat) {p:Nat} {o:Obj} (o':Obj) (hj:rs[j]? =some (BG p o)):St B h0 (Fm hp p o') (rs.set j (BG p o')):=s.upd hj (f4 o')
def An:List AE→Nat→AE
  | [],_=>BG 0 (.deferred none)
  | r::_,0=>r
  | _::rs,n+1=>An rs n
theorem PC:∀ (rs:List AE),(List.range rs.length).map (An rs)=rs:=by
 intro rs
 apply List.ext_getElem
 ·simp
 ·intro i h1 h2
  simp only [List.getElem_map,List.getElem_range]
  clear h1
  induction rs generalizing i with
  | nil=>simp at h2
  | cons r rs ih=>
   cases i with
   | zero=>rfl
   | succ i=>exact ih i (by simpa using h2)
theorem St.re {B:Nat} {h0 hp:AA} {rs:List AE} (s:St B h0 hp rs) (n:Nat) (Cf:List Nat) (h:Cf.Perm (List.range n)) (hn:rs.length=n:=by rfl):St B h0 hp (Cf.map (An rs)):=by
 subst hn
 have e:=PC rs
 have hp:=h.map (An rs)
 rw [e]at hp
 exact s.perm hp.symm
theorem St.keep {B:Nat} {h0 hp:AA}:∀ {rs:List AE} (n:Nat),St B h0 hp rs→St B h0 hp (rs.take n)
 | [],_,s=>by simpa using s
 | _::_,0,s=>by simpa using s.drop
 | r::rs,n+1,s=>by
  have h:(r::rs).Perm ((r::rs).take (n+1)++(r::rs).drop (n+1)):=by rw [List.take_append_drop]
  have s2:=s.perm (h.trans List.perm_append_comm)
  clear s h
  generalize (r::rs).take (n+1)=x at*
  generalize (r::rs).drop (n+1)=y at*
  induction y with
  | nil=>simpa using s2
  | cons a y ih=>exact ih s2.tail
section
variable {P:Program} {E:Au} {hp:AA} {cl:Ca} {d:Option Tmp} {ty:TypeId} {pos:String} {af:Array Edge} {g:Option (Nat×Bool)}
variable {x y:Operand} {t t':TypeId}
theorem Lq {k:Nat} {caps:Array Operand} {vs:List Value} (h:HG E caps.toList=some vs):BB cl P ⟨d,.makeFunc (.func k) #[] caps,ty,pos,af,g⟩ E hp (.func (.func k) #[] vs.toArray):=
 .of_pure fun _ a ho w'=>by
  have ha:caps.map a.eval=vs.toArray:=by
   apply Array.toList_inj.1
   rw [Array.toList_map,ho.evals h]
  simp [execOp,Instr.makeFunc,ha]
theorem IJ {f:FuncId} {args:Array Operand} {ts:Array TypeId} {vs:List Value} {caps:Array Value} {Φ:Value→AA→Prop} (hx:ev E x=some (.func (.func f) #[] caps)) (h:AG P f (vs++caps.toList) hp Φ) (hargs:HG E args.toList=some vs) (hc:EB P f=true):
  Bd P ⟨d,.call ⟨.value x,args,ts⟩,ty,pos,af,g⟩ E hp Φ:=by
 intro n a w ho hw K hK
 unfold EB at hc
 split at hc
 ·rename_i fn hfn
  simp only [Bool.and_eq_true,Bool.not_eq_true']at hc
  obtain ⟨hn,hb⟩:=hc
  have hn':¬ (fn.name= "runtime.NumGoroutine"):=by simpa using hn
  have hb':¬ (fn.body=none):=by intro h;rw [h]at hb;cases hb
  have ha:args.map a.eval=vs.toArray:=by
   apply Array.toList_inj.1
   rw [Array.toList_map,ho.evals hargs]
  have hrun:(execOp a.eval ⟨d,.call ⟨.value x,args,ts⟩,ty,pos,af,g⟩).run P w= .ok (.enter f (vs++caps.toList).toArray) w:=by
   have e:vs.toArray++caps=(vs++caps.toList).toArray:=by apply Array.toList_inj.1;simp
   simp [execOp,resolve,ho.eval hx,Deferred.ofValue,invoke,callFunc,hfn,hn',hb',ha,e]
  simp only [Oper.wp,hrun,Oper.upon]
  refine (h w hw).mono ?_
  rintro e w' ⟨v,rfl,hi,hΦ⟩
  exact hK v w' hi hΦ
 ·cases hc
theorem Fk {b o len:Nat} {k:IntKind} {i:Nat} (hx:ev E x=some (.pointer (some ⟨b,o,none⟩))) (hy:ev E y=some (.int k (i:Int))) (ht:K3 P t=some (len,1)) (hi:i<len):
  BB cl P ⟨d,.indexAddr t x y,ty,pos,af,g⟩ E hp (.pointer (some ⟨b,o+i,none⟩)):=by
 have:=FQ (cl:=cl) (hp:=hp) (d:=d) (ty:=ty) (pos:=pos) (af:=af) (g:=g) hx hy ht hi
 rwa [Nat.mul_one]at this
def PN {α:Type}:Option α→Bool
  | none=>true
  | some _=>false
theorem Lx {A:Option Addr} {m c:Nat} (hx:ev E x=some (.slice A m c)) (hy:ev E y=some (.slice none 0 0)) (ht:KL P t=true):BB cl P ⟨d,.binOp .eql t x y t',ty,pos,af,g⟩ E hp (.bool (PN A)):=
 .of_pure fun n a ho w'=>by
  unfold KL at ht
  split at ht
  ·rename_i e hu
   have he0:∀dd,(Op.equalIn (dd+1) t (.slice A m c) (.slice none 0 0)).run P w'= .ok (PN A) w':=by
    intro dd
    cases A <;> simp [Op.equalIn,run_underlying hu,PN]
   have hm:Op.maxDepth=9999+1:=rfl
   have he:=he0 9999
   rw [←hm]at he
   simp [execOp,ho.eval hx,ho.eval hy,eqGuard,binOp,Op.equal,he]
  ·cases ht
def FJ (P:Program) (l:Nat) (args:List Value) (hp:AA) (Φ:Value→AA→Prop):Prop:=
  ∀w:World,w.heap=hp→∃f tmps assign body,(Instr.yield l args.toArray).run P w= .ok (.round l f tmps assign body) w∧
    RoundIn Fence.wide 0 P l f tmps assign body w (fun e w'=>∃v,e= .returned v∧B8 w w'∧Φ v w'.heap)
def RM (P:Program) (o:Oper) (E:Au) (hp:AA) (Φ:Value→AA→Prop):Prop:=
  ∀n a w,OK n E a→w.heap=hp→∀K:Act→World→Prop,(∀v w',B8 w w'→Φ v w'.heap→K (a.put o.dst v) w')→∀S,wq P S o a w K
theorem Io {l:Nat} {args:Array Operand} {ts:Array TypeId} {vs:List Value} {Φ:Value→AA→Prop} (hx:ev E x=some (.func (.yield l) #[] #[])) (h:FJ P l vs hp Φ) (hargs:HG E args.toList=some vs):
  RM P ⟨d,.call ⟨.value x,args,ts⟩,ty,pos,af,g⟩ E hp Φ:=by
 intro n a w ho hw K hK S
 have ha:args.map a.eval=vs.toArray:=by
  apply Array.toList_inj.1
  rw [Array.toList_map,ho.evals hargs]
 obtain ⟨f,tmps,assign,body,hy,hR⟩:=h w hw
 have hrun:(execOp a.eval ⟨d,.call ⟨.value x,args,ts⟩,ty,pos,af,g⟩).run P w= .ok (.round l f tmps assign body) w:=by
  simp [execOp,resolve,ho.eval hx,Deferred.ofValue,invoke,ha,hy]
 simp only [wq,hrun,I1]
 refine hR.mono ?_
 rintro e w' ⟨v,rfl,hi,hΦ⟩
 exact ⟨v,rfl,hK v w' hi hΦ⟩
end
section
variable {c:Cx} {k:List DW} {E:Au} {hp:AA} {ops:Array Oper} {cs:CF}
theorem Ia {i:Nat} {d:Tmp} {op:Op} {ty:TypeId} {pos:String} {af:Array Edge} {g:Option (Nat×Bool)} {rest:List (Nat×Oper)} {Φ:Value→AA→Prop}
  (h1:RM c.P ⟨some d,op,ty,pos,af,g⟩ E hp Φ) (hc:cs i ⟨some d,op,ty,pos,af,g⟩= .wild) (hf:Nat.blt d c.fn.ntmps=true) (hw:Dv ops E ⟨some d,op,ty,pos,af,g⟩=some true)
  (h:∀v hp',Φ v hp'→XR c cs ops rest k ((d,v)::E) hp'):XR c cs ops ((i,⟨some d,op,ty,pos,af,g⟩)::rest) k E hp:=by
 unfold XR at*
 intro a w ho hi hh
 simp only [Fn,MP hw ho.1,if_true,hc,HN]
 exact h1 _ a w ho.1 hh _ (fun v w' hi' hΦ=>h v w'.heap hΦ (a.put (some d) v) w' ⟨ho.1.put (d:=some d) v hf,(put_defers _ _ _).trans ho.2⟩ (hi.trans hi') rfl) _
theorem Kt (D:List Deferred):∀ (k:List DW),SQ {c with D:=D} k=SQ c k
 | []=>rfl
 | .code x::k=>by
  funext e a w
  have ih:=Kt D k
  cases e <;> simp only [SQ,ih]
 | .blk id::k=>by
  funext e a w
  have ih:=Kt D k
  cases e <;> simp only [SQ,ih]
 | .inv J::k=>by
  funext e a w
  have ih:=Kt D k
  cases e <;> simp only [SQ,ih]
def DR (fn:FuncId) (tmps:Array Value) (ps:Array Tmp) (assign body:Code) (dd:Nat) (s:LoopState) (j:Option Code):Obj:=
  .loop {state:=s,pending:=j,fn,tmps,params:=ps,assign,body,defers:=dd}
theorem St.loop {B:Nat} {h0 hp:AA} {rs:List AE} (s:St B h0 hp rs) (j:Nat) {p:Nat} {fn:FuncId} {tmps:Array Value} {ps:Array Tmp} {assign body:Code} {dd:Nat} {s0:LoopState} {j0:Option Code} (s':LoopState) (j':Option Code) (hj:rs[j]? =some (BG p (DR fn tmps ps assign body dd s0 j0))):
  St B h0 (Fm hp p (DR fn tmps ps assign body dd s' j')) (rs.set j (BG p (DR fn tmps ps assign body dd s' j'))):=s.put j _ hj
@[reducible] def HL (d:Nat):Deferred:={target:= .collected d,args:= #[]}
theorem XW {g:Operand} {ps:Array Tmp} {assign body:Code} {gf:Nat} {lb:List Value} (hr:c.r=none) (hg:ev E g=some (.func (.func gf) #[] lb.toArray)) (hc:EB c.P gf=true)
  (h:∀fn tmps,OK c.fn.ntmps E ⟨tmps,[]⟩→AG c.P gf (.func (.yield (hp.size+1)) #[] #[]::lb) ((hp.push (.deferred (some []))).push (DR fn tmps ps assign body hp.size .ready none))
   (fun _ hp2=>(hp2[hp.size+1]? =some (DR fn tmps ps assign body hp.size .ready none)∧X {c with D:=HL hp.size::c.D} k E (Fm hp2 (hp.size+1) (DR fn tmps ps assign body hp.size .exhausted none)))∨
    ∃j,hp2[hp.size+1]? =some (DR fn tmps ps assign body hp.size .done (some j))∧X {c with D:=HL hp.size::c.D} (.code j::k) E (Fm hp2 (hp.size+1) (DR fn tmps ps assign body hp.size .exhausted (some j))))):
  X c (.code (.rangeFunc g ps assign body)::k) E hp:=by
 unfold X at*
 intro a w ho hi hw
 show (Code.rangeFunc g ps assign body).wpIn (Dw c.r) 0 c.P (SQ c k) a w
 rw [hr]
 refine wpIn_rangeFunc ?_
 intro fn hfn
 unfold EB at hc
 split at hc
 ·rename_i f0 hf0
  simp only [Bool.and_eq_true,Bool.not_eq_true']at hc
  obtain ⟨hn,hb⟩:=hc
  have hn':¬ (f0.name= "runtime.NumGoroutine"):=by simpa using hn
  have hb':¬ (f0.body=none):=by intro h;rw [h]at hb;cases hb
  subst hw
  obtain ⟨W1,hW1⟩:∃W1,(w.alloc (.deferred (some []))).alloc (DR fn a.tmps ps assign body w.heap.size .ready none)=W1:=⟨_,rfl⟩
  have hH1:W1.heap=(w.heap.push (.deferred (some []))).push (DR fn a.tmps ps assign body w.heap.size .ready none):=by rw [←hW1];rfl
  have hI1:B8 c.w0 W1:=by rw [←hW1];exact ⟨hi.os,hi.tape,hi.output⟩
  refine ⟨w.heap.size+1,[HL w.heap.size],W1,{target:= .fn (.func gf) lb.toArray,args:= #[.func (.yield (w.heap.size+1)) #[] #[]]},W1,gf,(.func (.yield (w.heap.size+1)) #[] #[]::lb).toArray,W1,?_,?_,fun _ _=>trivial,?_,?_,?_⟩
  ·rw [←hW1];exact run_enterLoop_outer _ _ _ _ _
  ·have hge:=ho.1.eval hg
   have hc0:∀v,a.eval (.const v)=v:=fun _=>rfl
   simp [resolve,hge,hc0,Deferred.ofValue]
  ·have e: #[Value.func (.yield (w.heap.size+1)) #[] #[]]++lb.toArray=(Value.func (.yield (w.heap.size+1)) #[] #[]::lb).toArray:=by apply Array.toList_inj.1;simp
   simp [invoke,callFunc,hf0,hn',hb',e]
  ·intro hh;simp [Dw,Fence.wide]at hh
  ·refine (callsIn_wide (n:=0-1)).2 ((h fn a.tmps ⟨ho.1.size,ho.1.get⟩ W1 hH1).mono ?_)
   rintro e W2 ⟨v,rfl,hI2,hΦ⟩
   have hI:=hI1.trans hI2
   rcases hΦ with ⟨hl,hX⟩ | ⟨j,hl,hX⟩
   ·refine ⟨none,W2.putObj (w.heap.size+1) (DR fn a.tmps ps assign body w.heap.size .exhausted none),run_endLoop hl (by simp),?_⟩
    have:=hX {a with defers:=[HL w.heap.size]++a.defers} (W2.putObj (w.heap.size+1) (DR fn a.tmps ps assign body w.heap.size .exhausted none)) ⟨⟨ho.1.size,ho.1.get⟩,by simp [ho.2]⟩ ⟨hI.os,hI.tape,hI.output⟩ rfl
    rw [Kt]at this
    exact this
   ·refine ⟨some j,W2.putObj (w.heap.size+1) (DR fn a.tmps ps assign body w.heap.size .exhausted (some j)),run_endLoop hl (by simp),?_⟩
    have:=hX {a with defers:=[HL w.heap.size]++a.defers} (W2.putObj (w.heap.size+1) (DR fn a.tmps ps assign body w.heap.size .exhausted (some j))) ⟨⟨ho.1.size,ho.1.get⟩,by simp [ho.2]⟩ ⟨hI.os,hI.tape,hI.output⟩ rfl
    rw [Kt]at this
    have e:(SQ c (.code j::k) .normal)=j.wpIn (Dw c.r) 0 c.P (SQ c k):=rfl
    rw [e,hr]at this
    exact this
 ·cases hc
theorem GL {B:Nat} {h0:AA} {rs:List AE} {g:Operand} {ps:Array Tmp} {assign body:Code} {gf:Nat} {lb:List Value} (st:St B h0 hp rs) (hr:c.r=none) (hg:ev E g=some (.func (.func gf) #[] lb.toArray)) (hc:EB c.P gf=true)
  (h:∀fn tmps (L:LoopState→Option Code→Obj) y d hp1,L=DR fn tmps ps assign body d→OK c.fn.ntmps E ⟨tmps,[]⟩→AV hp hp1→St B h0 hp1 (BG y (L .ready none)::BG d (.deferred (some []))::rs)→
   AG c.P gf (.func (.yield y) #[] #[]::lb) hp1 (fun _ hp2=>
    (∃rs',St B h0 hp2 (BG y (L .ready none)::rs')∧∀hp3,St B h0 hp3 (BG y (L .exhausted none)::rs')→X {c with D:=HL d::c.D} k E hp3)∨
    ∃j rs',St B h0 hp2 (BG y (L .done (some j))::rs')∧∀hp3,St B h0 hp3 (BG y (L .exhausted (some j))::rs')→X {c with D:=HL d::c.D} (.code j::k) E hp3)):
  X c (.code (.rangeFunc g ps assign body)::k) E hp:=by
 refine XW hr hg hc fun fn tmps hok=> ?_
 have n1:=Ik (.deferred (some [])) hp
 have n2:=Ik (DR fn tmps ps assign body hp.size .ready none) (hp.push (.deferred (some [])))
 rw [Array.size_push]at n2
 refine AG.mono (h fn tmps _ (hp.size+1) hp.size _ rfl hok (n1.1.trans n2.1) ((st.new n1).new n2)) ?_
 rintro v hp2 (⟨rs',st2,hX⟩ | ⟨j,rs',st2,hX⟩)
 ·exact .inl ⟨st2.obj_at 0 rfl,hX _ (st2.put 0 _ rfl)⟩
 ·exact .inr ⟨j,st2.obj_at 0 rfl,hX _ (st2.put 0 _ rfl)⟩
@[reducible] def Cx.rnd (P:Program) (fn:Func) (l:Nat) (Φ:Value→AA→Prop) (w0:World):Cx:=
  ⟨P,fn,Φ,w0,some l,[],roundPost P l fun e w'=>∃v,e= .returned v∧B8 w0 w'∧Φ v w'.heap,true⟩
def OR (c:Cx) (l:Nat) (body:Code) (a:Act) (w:World):Prop:=∃w₂,(Instr.beginRound l).run c.P w= .ok () w₂∧body.wpIn (Dw (some l)) 0 c.P c.B a w₂
theorem GJ {P:Program} {fn:Func} {l:Nat} {f:FuncId} {tmps:Array Value} {ps:Array Tmp} {assign body:Code} {dd:Nat} {Φ:Value→AA→Prop} {w0:World} (hl:hp[l]? =some (DR f tmps ps assign body dd .ready none))
  (h:X (Cx.rnd P fn l Φ w0) [.code body] E (Fm hp l (DR f tmps ps assign body dd .busy none))):X {Cx.rnd P fn l Φ w0 with B:=J4} [.inv (OR (Cx.rnd P fn l Φ w0) l body)] E hp:=by
 unfold X at*
 intro a w ho hi hw
 subst hw
 refine ⟨w.putObj l (DR f tmps ps assign body dd .busy none),run_beginRound hl rfl,?_⟩
 have:=h a (w.putObj l (DR f tmps ps assign body dd .busy none)) ho ⟨hi.os,hi.tape,hi.output⟩ rfl
 have e:SQ (Cx.rnd P fn l Φ w0) [.code body] .normal=body.wpIn (Dw (some l)) 0 P (SQ (Cx.rnd P fn l Φ w0) []):=rfl
 rw [e]at this
 exact wpIn_mono this (fun e a w he=>he)
def E2:List Tmp→List Value→Au→Au
  | p::ps,v::vs,E=>E2 ps vs ((p,v)::E)
  | _,_,E=>E
theorem OK.params {n:Nat}:∀ {ps:List Tmp} {vs:List Value} {E:Au} {tmps:Array Value},ps.all (Nat.blt · n)=true→OK n E ⟨tmps,[]⟩→OK n (E2 ps vs E) ⟨(ps.zip vs).foldl (fun t (p,v)=>t.setIfInBounds p v) tmps,[]⟩
 | [],_,_,_,_,h=>by simpa [E2]using h
 | _::_,[],_,_,_,h=>by simpa [E2]using h
 | p::ps,v::vs,E,tmps,hn,h=>by
  simp only [List.all_cons,Bool.and_eq_true]at hn
  have:=h.put (d:=some p) v hn.1
  exact OK.params (ps:=ps) (vs:=vs) hn.2 (this:OK n ((p,v)::E) ⟨tmps.setIfInBounds p v,[]⟩)
theorem GZ {P:Program} {fn:Func} {l:Nat} {f:FuncId} {tmps:Array Value} {ps:List Tmp} {assign body:Code} {dd:Nat} {args:List Value} {E:Au} {hp:AA} {Φ:Value→AA→Prop}
  (hl:hp[l]? =some (DR f tmps ps.toArray assign body dd .ready none)) (hE:OK fn.ntmps E ⟨tmps,[]⟩) (hn:ps.length=args.length) (hps:ps.all (Nat.blt · fn.ntmps)=true)
  (h:∀w0:World,w0.heap=hp→X {Cx.rnd P fn l Φ w0 with B:=J4} [.code assign,.inv (OR (Cx.rnd P fn l Φ w0) l body)] (E2 ps args E) hp):FJ P l args hp Φ:=by
 intro w hw
 refine ⟨f,(ps.toArray.zip args.toArray).foldl (fun t (p,v)=>t.setIfInBounds p v) tmps,assign,body,?_,?_⟩
 ·have:=run_yield (P:=P) (w:=w) (args:=args.toArray) (r:={state:= .ready,pending:=none,fn:=f,tmps,params:=ps.toArray,assign,body,defers:=dd}) (by rw [hw];exact hl) (by simp [hn])
  exact this
 ·have e:(ps.toArray.zip args.toArray).foldl (fun t (p,v)=>t.setIfInBounds p v) tmps=(ps.zip args).foldl (fun t (p,v)=>t.setIfInBounds p v) tmps:=by
   rw [←Array.foldl_toList];simp
  rw [e]
  have hx:=h w hw
  unfold X at hx
  have h1:=hx ⟨(ps.zip args).foldl (fun t (p,v)=>t.setIfInBounds p v) tmps,[]⟩ w ⟨OK.params hps hE,rfl⟩ (B8.refl w) hw
  refine roundIn_of_wpIn (F:=Fence.wide) (n:=0) trivial ?_
  refine wpIn_mono (Q:=SQ {Cx.rnd P fn l Φ w with B:=J4} [.inv (OR (Cx.rnd P fn l Φ w) l body)]) h1 ?_
  intro e a w1 he
  cases e with
  | normal=>exact he
  | exit _=>exact he.elim
  | goto _=>exact he.elim
  | ret=>exact he.elim
  | panic _=>exact he.elim
  | outgrown=>exact he.elim
theorem FL {P:Program} {fn:Func} {l:Nat} {f:FuncId} {tmps:Array Value} {ps:Array Tmp} {assign body:Code} {dd:Nat} {E:Au} {hp:AA} {Φ:Value→AA→Prop} {w0:World}
  (hl:hp[l]? =some (DR f tmps ps assign body dd .busy none)) (hΦ:Φ (.bool true) (Fm hp l (DR f tmps ps assign body dd .ready none))):X (Cx.rnd P fn l Φ w0) [] E hp:=by
 unfold X
 intro a w ho hi hw
 subst hw
 exact ⟨.bool true,w.putObj l (DR f tmps ps assign body dd .ready none),run_endRound none hl,.bool true,rfl,⟨hi.os,hi.tape,hi.output⟩,hΦ⟩
theorem MZ {id:Nat}:∀ {k:List DW},Ha id k=none→∀a w,c.B (.exit id) a w→SQ c k (.exit id) a w
 | [],_,a,w,h=>h
 | .code _::k,he,a,w,h=>MZ (k:=k) he a w h
 | .inv _::k,he,a,w,h=>MZ (k:=k) he a w h
 | .blk j::k,he,a,w,h=>by
  simp only [Ha]at he
  show (if id=j then SQ c k .normal a w else SQ c k (.exit id) a w)
  cases hb:Nat.beq id j with
  | true=>rw [hb]at he;cases he
  | false=>rw [hb]at he;rw [if_neg (Nat.ne_of_beq_eq_false hb)];exact MZ he a w h
theorem Mb {P:Program} {fn:Func} {l:Nat} {f:FuncId} {tmps:Array Value} {ps:Array Tmp} {assign body:Code} {dd id:Nat} {E:Au} {hp:AA} {Φ:Value→AA→Prop} {w0:World} {k:List DW} (hk:Ha id k=none)
  (hl:hp[l]? =some (DR f tmps ps assign body dd .busy none)) (hΦ:Φ (.bool false) (Fm hp l (DR f tmps ps assign body dd .done (some (.exit id))))):X (Cx.rnd P fn l Φ w0) (.code (.exit id)::k) E hp:=by
 unfold X
 intro a w ho hi hw
 subst hw
 refine wpIn_exit (MZ hk _ _ ?_)
 exact ⟨.bool false,w.putObj l (DR f tmps ps assign body dd .done (some (.exit id))),run_endRound (some (.exit id)) hl,.bool false,rfl,⟨hi.os,hi.tape,hi.output⟩,hΦ⟩
end
theorem St.reF {B:Nat} {h0 hp:AA} (rs:List AE) (n:Nat) {F:List AE} (s:St B h0 hp (rs++F)) (Cf:List Nat) (h:Cf.Perm (List.range n)) (hn:rs.length=n:=by rfl):St B h0 hp (Cf.map (An rs)++F):=by
 subst hn
 have e:=PC rs
 have hp:=h.map (An rs)
 rw [e]at hp
 exact s.perm (hp.symm.append_right F)
end Go.Bn
namespace Go.Bn
open Go
theorem Ar {c:Cx} {k:List DW} {E:Au} {hp:AA} {ops:Array Oper} {cs:CF} {n:Nat} {d:Tmp} {ty:TypeId} {pos:String} {af:Array Edge} {rest:List (Nat×Oper)} {g:Option (Nat×Bool)} (op:Op) (h:XR c cs ops ((n,⟨some d,op,ty,pos,af,g⟩)::rest) k E hp):XR c cs ops ((n,⟨some d,op,ty,pos,af,g⟩)::rest) k E hp:=h
theorem MT {c:Cx} {k:List DW} {E:Au} {hp:AA} {ops:Array Oper} {cs:CF} {n:Nat} {d:Tmp} {ty:TypeId} {pos:String} {af:Array Edge} {rest:List (Nat×Oper)} {g:Nat×Bool} {op:Op} (h:XR c cs ops ((n,⟨some d,op,ty,pos,af,some g⟩)::rest) k E hp):XR c cs ops ((n,⟨some d,op,ty,pos,af,some g⟩)::rest) k E hp:=h
structure CU (q:Prop):Prop where
  h:q
theorem AC {p q:Prop} (h:q) (i:CU q→p:=by
  intro h
  iterate 1 (first
   | (refine Ar (.move ..) ?_;refine AD (DZ rfl) rfl rfl ?_)
   | refine Dd ?_
   | refine Do ?_
   | refine DS ?_
   | (refine Ar (.assign ..) ?_;refine AD (Cm rfl) rfl rfl ?_)
   | (refine MT ?_;refine IZ rfl rfl ?_)
   | (refine Ar (.fieldAddr ..) ?_;(first | refine AD (Lf rfl rfl) rfl rfl ?_ | refine AD (Lh rfl rfl) rfl rfl ?_))
   | (refine Ar (.extract ..) ?_;refine AD (Ld rfl rfl) rfl rfl ?_)
   | (refine Ar (.nilCheck ..) ?_;refine AD (Ls rfl) rfl rfl ?_)
   | (refine Ar (.pick ..) ?_;(first | refine AD (KX rfl rfl) rfl rfl ?_ | refine AD (KW rfl rfl) rfl rfl ?_))
   | (refine Ar (.call ..) ?_;(first | refine AD (Lk rfl rfl rfl) rfl rfl ?_ | refine AD (Ll rfl rfl rfl) rfl rfl ?_ | refine AD (Lp rfl rfl) rfl rfl ?_ | refine AD (Lo rfl rfl) rfl rfl ?_))
   | (refine Ar (.indexAddr ..) ?_;(first | refine AD (C0 rfl rfl rfl (by omega)) rfl rfl ?_ | refine AD (Bp rfl rfl rfl (by omega)) rfl rfl ?_))
   | (refine Ar (.unOp ..) ?_;(first | refine AD (Jg rfl) rfl rfl ?_ | refine AD (Bm rfl) rfl rfl ?_))
   | (refine Ar (.convert ..) ?_;(first | refine AD (Bj rfl rfl (by simp only [AI];omega)) rfl rfl ?_ | refine AD (IH rfl rfl rfl) rfl rfl ?_ | refine AD (Dm rfl rfl) rfl rfl ?_))
   | (refine Ar (.makeFunc ..) ?_;refine AD (Lq rfl) rfl rfl ?_)
   | (refine Ar (.slice ..) ?_;refine AD (KZ rfl rfl rfl (by omega)) rfl rfl ?_)
   | (refine Ar (.field ..) ?_;refine AD (Le rfl rfl) rfl rfl ?_)
   | (refine Ar (.binOp ..) ?_;first | (refine Ar (.binOp .lss ..) ?_;refine AD (Ln rfl rfl) rfl rfl ?_) | (refine Ar (.binOp .eql ..) ?_;(first | refine AD (In rfl rfl) rfl rfl ?_ | refine AD (Lt rfl rfl rfl) rfl rfl ?_ | refine AD (Lx rfl rfl rfl) rfl rfl ?_)) | (refine Ar (.binOp .neq ..) ?_;(first | refine AD (Lr rfl rfl) rfl rfl ?_ | refine AD (Lu rfl rfl rfl) rfl rfl ?_ | refine AD (F9 rfl rfl) rfl rfl ?_)) | (refine Ar (.binOp .gtr ..) ?_;refine AD (KV rfl rfl) rfl rfl ?_) | (refine Ar (.binOp .geq ..) ?_;refine AD (Li rfl rfl) rfl rfl ?_) | (refine Ar (.binOp .leq ..) ?_;refine AD (Lm rfl rfl) rfl rfl ?_) | (refine Ar (.binOp .add ..) ?_;(first | refine AD (CH (n:=1) rfl rfl (by simp only [AI];omega)) rfl rfl ?_ | refine AD (CH (n:=512) rfl rfl (by simp only [AI];omega)) rfl rfl ?_ | refine AD (CH (n:=2) rfl rfl (by simp only [AI];omega)) rfl rfl ?_ | refine AD (CH (n:=0) rfl rfl (by simp only [AI];omega)) rfl rfl ?_ | refine AD (CH rfl rfl (by simp only [AI];omega)) rfl rfl ?_ | refine AD (IF rfl rfl (by simp only [AI];omega)) rfl rfl ?_ | refine AD (IE rfl rfl) rfl rfl ?_)) | (refine Ar (.binOp .sub ..) ?_;(first | refine AD (Bk (n:=1) rfl rfl (by omega) (by simp only [AI];omega)) rfl rfl ?_ | refine AD (Bk rfl rfl (by omega) (by simp only [AI];omega)) rfl rfl ?_ | refine AD (EU rfl rfl (by simp only [AI];omega)) rfl rfl ?_ | refine AD (II rfl rfl) rfl rfl ?_)) | (refine Ar (.binOp .mul ..) ?_;(first | refine AD (D0 rfl rfl (by simp only [AI];omega)) rfl rfl ?_ | refine AD (F8 rfl rfl (by simp only [AI];omega)) rfl rfl ?_ | refine AD (F7 rfl rfl) rfl rfl ?_)))
   | refine I8 ?_
   | refine Af (.cons (.tmp rfl) .nil) ?_
   | refine I7 rfl ?_
   | refine HU ?_
   | refine Hw ?_
   | refine I9 rfl ?_
   | refine Kw rfl ?_
   | refine Af (.cons (.tmp rfl) (.cons (.tmp rfl) .nil)) ?_
   | refine El H0 (by kernel_rfl) (by kernel_rfl) ?_
   | refine Kv .nil ?_
   | refine Af (.cons (.tmp rfl) (.cons (.tmp rfl) (.cons (.tmp rfl) .nil))) ?_
   | refine Kx ?_
   | refine Af .nil ?_)
  exact h.h):p:=i ⟨h⟩
theorem AB {p q:Prop} (h:q) (i:CU q→p:=by
  intro h
  iterate 2 (first
   | (refine Ar (.move ..) ?_;refine AD (DZ rfl) rfl rfl ?_)
   | refine Dd ?_
   | refine Do ?_
   | refine DS ?_
   | (refine Ar (.assign ..) ?_;refine AD (Cm rfl) rfl rfl ?_)
   | (refine MT ?_;refine IZ rfl rfl ?_)
   | (refine Ar (.fieldAddr ..) ?_;(first | refine AD (Lf rfl rfl) rfl rfl ?_ | refine AD (Lh rfl rfl) rfl rfl ?_))
   | (refine Ar (.extract ..) ?_;refine AD (Ld rfl rfl) rfl rfl ?_)
   | (refine Ar (.nilCheck ..) ?_;refine AD (Ls rfl) rfl rfl ?_)
   | (refine Ar (.pick ..) ?_;(first | refine AD (KX rfl rfl) rfl rfl ?_ | refine AD (KW rfl rfl) rfl rfl ?_))
   | (refine Ar (.call ..) ?_;(first | refine AD (Lk rfl rfl rfl) rfl rfl ?_ | refine AD (Ll rfl rfl rfl) rfl rfl ?_ | refine AD (Lp rfl rfl) rfl rfl ?_ | refine AD (Lo rfl rfl) rfl rfl ?_))
   | (refine Ar (.indexAddr ..) ?_;(first | refine AD (C0 rfl rfl rfl (by omega)) rfl rfl ?_ | refine AD (Bp rfl rfl rfl (by omega)) rfl rfl ?_))
   | (refine Ar (.unOp ..) ?_;(first | refine AD (Jg rfl) rfl rfl ?_ | refine AD (Bm rfl) rfl rfl ?_))
   | (refine Ar (.convert ..) ?_;(first | refine AD (Bj rfl rfl (by simp only [AI];omega)) rfl rfl ?_ | refine AD (IH rfl rfl rfl) rfl rfl ?_ | refine AD (Dm rfl rfl) rfl rfl ?_))
   | (refine Ar (.makeFunc ..) ?_;refine AD (Lq rfl) rfl rfl ?_)
   | (refine Ar (.slice ..) ?_;refine AD (KZ rfl rfl rfl (by omega)) rfl rfl ?_)
   | (refine Ar (.field ..) ?_;refine AD (Le rfl rfl) rfl rfl ?_)
   | (refine Ar (.binOp ..) ?_;first | (refine Ar (.binOp .lss ..) ?_;refine AD (Ln rfl rfl) rfl rfl ?_) | (refine Ar (.binOp .eql ..) ?_;(first | refine AD (In rfl rfl) rfl rfl ?_ | refine AD (Lt rfl rfl rfl) rfl rfl ?_ | refine AD (Lx rfl rfl rfl) rfl rfl ?_)) | (refine Ar (.binOp .neq ..) ?_;(first | refine AD (Lr rfl rfl) rfl rfl ?_ | refine AD (Lu rfl rfl rfl) rfl rfl ?_ | refine AD (F9 rfl rfl) rfl rfl ?_)) | (refine Ar (.binOp .gtr ..) ?_;refine AD (KV rfl rfl) rfl rfl ?_) | (refine Ar (.binOp .geq ..) ?_;refine AD (Li rfl rfl) rfl rfl ?_) | (refine Ar (.binOp .leq ..) ?_;refine AD (Lm rfl rfl) rfl rfl ?_) | (refine Ar (.binOp .add ..) ?_;(first | refine AD (CH (n:=1) rfl rfl (by simp only [AI];omega)) rfl rfl ?_ | refine AD (CH (n:=512) rfl rfl (by simp only [AI];omega)) rfl rfl ?_ | refine AD (CH (n:=2) rfl rfl (by simp only [AI];omega)) rfl rfl ?_ | refine AD (CH (n:=0) rfl rfl (by simp only [AI];omega)) rfl rfl ?_ | refine AD (CH rfl rfl (by simp only [AI];omega)) rfl rfl ?_ | refine AD (IF rfl rfl (by simp only [AI];omega)) rfl rfl ?_ | refine AD (IE rfl rfl) rfl rfl ?_)) | (refine Ar (.binOp .sub ..) ?_;(first | refine AD (Bk (n:=1) rfl rfl (by omega) (by simp only [AI];omega)) rfl rfl ?_ | refine AD (Bk rfl rfl (by omega) (by simp only [AI];omega)) rfl rfl ?_ | refine AD (EU rfl rfl (by simp only [AI];omega)) rfl rfl ?_ | refine AD (II rfl rfl) rfl rfl ?_)) | (refine Ar (.binOp .mul ..) ?_;(first | refine AD (D0 rfl rfl (by simp only [AI];omega)) rfl rfl ?_ | refine AD (F8 rfl rfl (by simp only [AI];omega)) rfl rfl ?_ | refine AD (F7 rfl rfl) rfl rfl ?_)))
   | refine I8 ?_
   | refine Af (.cons (.tmp rfl) .nil) ?_
   | refine I7 rfl ?_
   | refine HU ?_
   | refine Hw ?_
   | refine I9 rfl ?_
   | refine Kw rfl ?_
   | refine Af (.cons (.tmp rfl) (.cons (.tmp rfl) .nil)) ?_
   | refine El H0 (by kernel_rfl) (by kernel_rfl) ?_
   | refine Kv .nil ?_
   | refine Af (.cons (.tmp rfl) (.cons (.tmp rfl) (.cons (.tmp rfl) .nil))) ?_
   | refine Kx ?_
   | refine Af .nil ?_)
  exact h.h):p:=i ⟨h⟩
theorem AJ {p q:Prop} (h:q) (i:CU q→p:=by
  intro h
  iterate 4 (first
   | (refine Ar (.move ..) ?_;refine AD (DZ rfl) rfl rfl ?_)
   | refine Dd ?_
   | refine Do ?_
   | refine DS ?_
   | (refine Ar (.assign ..) ?_;refine AD (Cm rfl) rfl rfl ?_)
   | (refine MT ?_;refine IZ rfl rfl ?_)
   | (refine Ar (.fieldAddr ..) ?_;(first | refine AD (Lf rfl rfl) rfl rfl ?_ | refine AD (Lh rfl rfl) rfl rfl ?_))
   | (refine Ar (.extract ..) ?_;refine AD (Ld rfl rfl) rfl rfl ?_)
   | (refine Ar (.nilCheck ..) ?_;refine AD (Ls rfl) rfl rfl ?_)
   | (refine Ar (.pick ..) ?_;(first | refine AD (KX rfl rfl) rfl rfl ?_ | refine AD (KW rfl rfl) rfl rfl ?_))
   | (refine Ar (.call ..) ?_;(first | refine AD (Lk rfl rfl rfl) rfl rfl ?_ | refine AD (Ll rfl rfl rfl) rfl rfl ?_ | refine AD (Lp rfl rfl) rfl rfl ?_ | refine AD (Lo rfl rfl) rfl rfl ?_))
   | (refine Ar (.indexAddr ..) ?_;(first | refine AD (C0 rfl rfl rfl (by omega)) rfl rfl ?_ | refine AD (Bp rfl rfl rfl (by omega)) rfl rfl ?_))
   | (refine Ar (.unOp ..) ?_;(first | refine AD (Jg rfl) rfl rfl ?_ | refine AD (Bm rfl) rfl rfl ?_))
   | (refine Ar (.convert ..) ?_;(first | refine AD (Bj rfl rfl (by simp only [AI];omega)) rfl rfl ?_ | refine AD (IH rfl rfl rfl) rfl rfl ?_ | refine AD (Dm rfl rfl) rfl rfl ?_))
   | (refine Ar (.makeFunc ..) ?_;refine AD (Lq rfl) rfl rfl ?_)
   | (refine Ar (.slice ..) ?_;refine AD (KZ rfl rfl rfl (by omega)) rfl rfl ?_)
   | (refine Ar (.field ..) ?_;refine AD (Le rfl rfl) rfl rfl ?_)
   | (refine Ar (.binOp ..) ?_;first | (refine Ar (.binOp .lss ..) ?_;refine AD (Ln rfl rfl) rfl rfl ?_) | (refine Ar (.binOp .eql ..) ?_;(first | refine AD (In rfl rfl) rfl rfl ?_ | refine AD (Lt rfl rfl rfl) rfl rfl ?_ | refine AD (Lx rfl rfl rfl) rfl rfl ?_)) | (refine Ar (.binOp .neq ..) ?_;(first | refine AD (Lr rfl rfl) rfl rfl ?_ | refine AD (Lu rfl rfl rfl) rfl rfl ?_ | refine AD (F9 rfl rfl) rfl rfl ?_)) | (refine Ar (.binOp .gtr ..) ?_;refine AD (KV rfl rfl) rfl rfl ?_) | (refine Ar (.binOp .geq ..) ?_;refine AD (Li rfl rfl) rfl rfl ?_) | (refine Ar (.binOp .leq ..) ?_;refine AD (Lm rfl rfl) rfl rfl ?_) | (refine Ar (.binOp .add ..) ?_;(first | refine AD (CH (n:=1) rfl rfl (by simp only [AI];omega)) rfl rfl ?_ | refine AD (CH (n:=512) rfl rfl (by simp only [AI];omega)) rfl rfl ?_ | refine AD (CH (n:=2) rfl rfl (by simp only [AI];omega)) rfl rfl ?_ | refine AD (CH (n:=0) rfl rfl (by simp only [AI];omega)) rfl rfl ?_ | refine AD (CH rfl rfl (by simp only [AI];omega)) rfl rfl ?_ | refine AD (IF rfl rfl (by simp only [AI];omega)) rfl rfl ?_ | refine AD (IE rfl rfl) rfl rfl ?_)) | (refine Ar (.binOp .sub ..) ?_;(first | refine AD (Bk (n:=1) rfl rfl (by omega) (by simp only [AI];omega)) rfl rfl ?_ | refine AD (Bk rfl rfl (by omega) (by simp only [AI];omega)) rfl rfl ?_ | refine AD (EU rfl rfl (by simp only [AI];omega)) rfl rfl ?_ | refine AD (II rfl rfl) rfl rfl ?_)) | (refine Ar (.binOp .mul ..) ?_;(first | refine AD (D0 rfl rfl (by simp only [AI];omega)) rfl rfl ?_ | refine AD (F8 rfl rfl (by simp only [AI];omega)) rfl rfl ?_ | refine AD (F7 rfl rfl) rfl rfl ?_)))
   | refine I8 ?_
   | refine Af (.cons (.tmp rfl) .nil) ?_
   | refine I7 rfl ?_
   | refine HU ?_
   | refine Hw ?_
   | refine I9 rfl ?_
   | refine Kw rfl ?_
   | refine Af (.cons (.tmp rfl) (.cons (.tmp rfl) .nil)) ?_
   | refine El H0 (by kernel_rfl) (by kernel_rfl) ?_
   | refine Kv .nil ?_
   | refine Af (.cons (.tmp rfl) (.cons (.tmp rfl) (.cons (.tmp rfl) .nil))) ?_
   | refine Kx ?_
   | refine Af .nil ?_)
  exact h.h):p:=i ⟨h⟩
theorem AP {p q:Prop} (h:q) (i:CU q→p:=by
  intro h
  iterate 8 (first
   | (refine Ar (.move ..) ?_;refine AD (DZ rfl) rfl rfl ?_)
   | refine Dd ?_
   | refine Do ?_
   | refine DS ?_
   | (refine Ar (.assign ..) ?_;refine AD (Cm rfl) rfl rfl ?_)
   | (refine MT ?_;refine IZ rfl rfl ?_)
   | (refine Ar (.fieldAddr ..) ?_;(first | refine AD (Lf rfl rfl) rfl rfl ?_ | refine AD (Lh rfl rfl) rfl rfl ?_))
   | (refine Ar (.extract ..) ?_;refine AD (Ld rfl rfl) rfl rfl ?_)
   | (refine Ar (.nilCheck ..) ?_;refine AD (Ls rfl) rfl rfl ?_)
   | (refine Ar (.pick ..) ?_;(first | refine AD (KX rfl rfl) rfl rfl ?_ | refine AD (KW rfl rfl) rfl rfl ?_))
   | (refine Ar (.call ..) ?_;(first | refine AD (Lk rfl rfl rfl) rfl rfl ?_ | refine AD (Ll rfl rfl rfl) rfl rfl ?_ | refine AD (Lp rfl rfl) rfl rfl ?_ | refine AD (Lo rfl rfl) rfl rfl ?_))
   | (refine Ar (.indexAddr ..) ?_;(first | refine AD (C0 rfl rfl rfl (by omega)) rfl rfl ?_ | refine AD (Bp rfl rfl rfl (by omega)) rfl rfl ?_))
   | (refine Ar (.unOp ..) ?_;(first | refine AD (Jg rfl) rfl rfl ?_ | refine AD (Bm rfl) rfl rfl ?_))
   | (refine Ar (.convert ..) ?_;(first | refine AD (Bj rfl rfl (by simp only [AI];omega)) rfl rfl ?_ | refine AD (IH rfl rfl rfl) rfl rfl ?_ | refine AD (Dm rfl rfl) rfl rfl ?_))
   | (refine Ar (.makeFunc ..) ?_;refine AD (Lq rfl) rfl rfl ?_)
   | (refine Ar (.slice ..) ?_;refine AD (KZ rfl rfl rfl (by omega)) rfl rfl ?_)
   | (refine Ar (.field ..) ?_;refine AD (Le rfl rfl) rfl rfl ?_)
   | (refine Ar (.binOp ..) ?_;first | (refine Ar (.binOp .lss ..) ?_;refine AD (Ln rfl rfl) rfl rfl ?_) | (refine Ar (.binOp .eql ..) ?_;(first | refine AD (In rfl rfl) rfl rfl ?_ | refine AD (Lt rfl rfl rfl) rfl rfl ?_ | refine AD (Lx rfl rfl rfl) rfl rfl ?_)) | (refine Ar (.binOp .neq ..) ?_;(first | refine AD (Lr rfl rfl) rfl rfl ?_ | refine AD (Lu rfl rfl rfl) rfl rfl ?_ | refine AD (F9 rfl rfl) rfl rfl ?_)) | (refine Ar (.binOp .gtr ..) ?_;refine AD (KV rfl rfl) rfl rfl ?_) | (refine Ar (.binOp .geq ..) ?_;refine AD (Li rfl rfl) rfl rfl ?_) | (refine Ar (.binOp .leq ..) ?_;refine AD (Lm rfl rfl) rfl rfl ?_) | (refine Ar (.binOp .add ..) ?_;(first | refine AD (CH (n:=1) rfl rfl (by simp only [AI];omega)) rfl rfl ?_ | refine AD (CH (n:=512) rfl rfl (by simp only [AI];omega)) rfl rfl ?_ | refine AD (CH (n:=2) rfl rfl (by simp only [AI];omega)) rfl rfl ?_ | refine AD (CH (n:=0) rfl rfl (by simp only [AI];omega)) rfl rfl ?_ | refine AD (CH rfl rfl (by simp only [AI];omega)) rfl rfl ?_ | refine AD (IF rfl rfl (by simp only [AI];omega)) rfl rfl ?_ | refine AD (IE rfl rfl) rfl rfl ?_)) | (refine Ar (.binOp .sub ..) ?_;(first | refine AD (Bk (n:=1) rfl rfl (by omega) (by simp only [AI];omega)) rfl rfl ?_ | refine AD (Bk rfl rfl (by omega) (by simp only [AI];omega)) rfl rfl ?_ | refine AD (EU rfl rfl (by simp only [AI];omega)) rfl rfl ?_ | refine AD (II rfl rfl) rfl rfl ?_)) | (refine Ar (.binOp .mul ..) ?_;(first | refine AD (D0 rfl rfl (by simp only [AI];omega)) rfl rfl ?_ | refine AD (F8 rfl rfl (by simp only [AI];omega)) rfl rfl ?_ | refine AD (F7 rfl rfl) rfl rfl ?_)))
   | refine I8 ?_
   | refine Af (.cons (.tmp rfl) .nil) ?_
   | refine I7 rfl ?_
   | refine HU ?_
   | refine Hw ?_
   | refine I9 rfl ?_
   | refine Kw rfl ?_
   | refine Af (.cons (.tmp rfl) (.cons (.tmp rfl) .nil)) ?_
   | refine El H0 (by kernel_rfl) (by kernel_rfl) ?_
   | refine Kv .nil ?_
   | refine Af (.cons (.tmp rfl) (.cons (.tmp rfl) (.cons (.tmp rfl) .nil))) ?_
   | refine Kx ?_
   | refine Af .nil ?_)
  exact h.h):p:=i ⟨h⟩
theorem Bb {p q:Prop} (h:q) (i:CU q→p:=by
  intro h
  iterate 16 (first
   | (refine Ar (.move ..) ?_;refine AD (DZ rfl) rfl rfl ?_)
   | refine Dd ?_
   | refine Do ?_
   | refine DS ?_
   | (refine Ar (.assign ..) ?_;refine AD (Cm rfl) rfl rfl ?_)
   | (refine MT ?_;refine IZ rfl rfl ?_)
   | (refine Ar (.fieldAddr ..) ?_;(first | refine AD (Lf rfl rfl) rfl rfl ?_ | refine AD (Lh rfl rfl) rfl rfl ?_))
   | (refine Ar (.extract ..) ?_;refine AD (Ld rfl rfl) rfl rfl ?_)
   | (refine Ar (.nilCheck ..) ?_;refine AD (Ls rfl) rfl rfl ?_)
   | (refine Ar (.pick ..) ?_;(first | refine AD (KX rfl rfl) rfl rfl ?_ | refine AD (KW rfl rfl) rfl rfl ?_))
   | (refine Ar (.call ..) ?_;(first | refine AD (Lk rfl rfl rfl) rfl rfl ?_ | refine AD (Ll rfl rfl rfl) rfl rfl ?_ | refine AD (Lp rfl rfl) rfl rfl ?_ | refine AD (Lo rfl rfl) rfl rfl ?_))
   | (refine Ar (.indexAddr ..) ?_;(first | refine AD (C0 rfl rfl rfl (by omega)) rfl rfl ?_ | refine AD (Bp rfl rfl rfl (by omega)) rfl rfl ?_))
   | (refine Ar (.unOp ..) ?_;(first | refine AD (Jg rfl) rfl rfl ?_ | refine AD (Bm rfl) rfl rfl ?_))
   | (refine Ar (.convert ..) ?_;(first | refine AD (Bj rfl rfl (by simp only [AI];omega)) rfl rfl ?_ | refine AD (IH rfl rfl rfl) rfl rfl ?_ | refine AD (Dm rfl rfl) rfl rfl ?_))
   | (refine Ar (.makeFunc ..) ?_;refine AD (Lq rfl) rfl rfl ?_)
   | (refine Ar (.slice ..) ?_;refine AD (KZ rfl rfl rfl (by omega)) rfl rfl ?_)
   | (refine Ar (.field ..) ?_;refine AD (Le rfl rfl) rfl rfl ?_)
   | (refine Ar (.binOp ..) ?_;first | (refine Ar (.binOp .lss ..) ?_;refine AD (Ln rfl rfl) rfl rfl ?_) | (refine Ar (.binOp .eql ..) ?_;(first | refine AD (In rfl rfl) rfl rfl ?_ | refine AD (Lt rfl rfl rfl) rfl rfl ?_ | refine AD (Lx rfl rfl rfl) rfl rfl ?_)) | (refine Ar (.binOp .neq ..) ?_;(first | refine AD (Lr rfl rfl) rfl rfl ?_ | refine AD (Lu rfl rfl rfl) rfl rfl ?_ | refine AD (F9 rfl rfl) rfl rfl ?_)) | (refine Ar (.binOp .gtr ..) ?_;refine AD (KV rfl rfl) rfl rfl ?_) | (refine Ar (.binOp .geq ..) ?_;refine AD (Li rfl rfl) rfl rfl ?_) | (refine Ar (.binOp .leq ..) ?_;refine AD (Lm rfl rfl) rfl rfl ?_) | (refine Ar (.binOp .add ..) ?_;(first | refine AD (CH (n:=1) rfl rfl (by simp only [AI];omega)) rfl rfl ?_ | refine AD (CH (n:=512) rfl rfl (by simp only [AI];omega)) rfl rfl ?_ | refine AD (CH (n:=2) rfl rfl (by simp only [AI];omega)) rfl rfl ?_ | refine AD (CH (n:=0) rfl rfl (by simp only [AI];omega)) rfl rfl ?_ | refine AD (CH rfl rfl (by simp only [AI];omega)) rfl rfl ?_ | refine AD (IF rfl rfl (by simp only [AI];omega)) rfl rfl ?_ | refine AD (IE rfl rfl) rfl rfl ?_)) | (refine Ar (.binOp .sub ..) ?_;(first | refine AD (Bk (n:=1) rfl rfl (by omega) (by simp only [AI];omega)) rfl rfl ?_ | refine AD (Bk rfl rfl (by omega) (by simp only [AI];omega)) rfl rfl ?_ | refine AD (EU rfl rfl (by simp only [AI];omega)) rfl rfl ?_ | refine AD (II rfl rfl) rfl rfl ?_)) | (refine Ar (.binOp .mul ..) ?_;(first | refine AD (D0 rfl rfl (by simp only [AI];omega)) rfl rfl ?_ | refine AD (F8 rfl rfl (by simp only [AI];omega)) rfl rfl ?_ | refine AD (F7 rfl rfl) rfl rfl ?_)))
   | refine I8 ?_
   | refine Af (.cons (.tmp rfl) .nil) ?_
   | refine I7 rfl ?_
   | refine HU ?_
   | refine Hw ?_
   | refine I9 rfl ?_
   | refine Kw rfl ?_
   | refine Af (.cons (.tmp rfl) (.cons (.tmp rfl) .nil)) ?_
   | refine El H0 (by kernel_rfl) (by kernel_rfl) ?_
   | refine Kv .nil ?_
   | refine Af (.cons (.tmp rfl) (.cons (.tmp rfl) (.cons (.tmp rfl) .nil))) ?_
   | refine Kx ?_
   | refine Af .nil ?_)
  exact h.h):p:=i ⟨h⟩
theorem AF {p q:Prop} (h:q) (i:CU q→p:=by intro h;refine AB ?_;refine AC ?_;exact h.h):p:=i ⟨h⟩
theorem AH {p q:Prop} (h:q) (i:CU q→p:=by intro h;refine AJ ?_;refine AC ?_;exact h.h):p:=i ⟨h⟩
theorem AL {p q:Prop} (h:q) (i:CU q→p:=by intro h;refine AJ ?_;refine AB ?_;exact h.h):p:=i ⟨h⟩
theorem AO {p q:Prop} (h:q) (i:CU q→p:=by intro h;refine AJ ?_;refine AB ?_;refine AC ?_;exact h.h):p:=i ⟨h⟩
theorem Aj {p q:Prop} (h:q) (i:CU q→p:=by intro h;refine AP ?_;refine AC ?_;exact h.h):p:=i ⟨h⟩
theorem BP {p q:Prop} (h:q) (i:CU q→p:=by intro h;refine AP ?_;refine AB ?_;exact h.h):p:=i ⟨h⟩
theorem Bu {p q:Prop} (h:q) (i:CU q→p:=by intro h;refine AP ?_;refine AB ?_;refine AC ?_;exact h.h):p:=i ⟨h⟩
theorem By {p q:Prop} (h:q) (i:CU q→p:=by intro h;refine AP ?_;refine AJ ?_;exact h.h):p:=i ⟨h⟩
theorem B3 {p q:Prop} (h:q) (i:CU q→p:=by intro h;refine AP ?_;refine AJ ?_;refine AC ?_;exact h.h):p:=i ⟨h⟩
theorem Bq {p q:Prop} (h:q) (i:CU q→p:=by intro h;refine AP ?_;refine AJ ?_;refine AB ?_;exact h.h):p:=i ⟨h⟩
theorem Cp {p q:Prop} (h:q) (i:CU q→p:=by intro h;refine AP ?_;refine AJ ?_;refine AB ?_;refine AC ?_;exact h.h):p:=i ⟨h⟩
theorem EY {p q:Prop} (h:q) (i:CU q→p:=by intro h;refine Bb ?_;refine AC ?_;exact h.h):p:=i ⟨h⟩
theorem FX {p q:Prop} (h:q) (i:CU q→p:=by intro h;refine Bb ?_;refine AB ?_;exact h.h):p:=i ⟨h⟩
theorem Fv {p q:Prop} (h:q) (i:CU q→p:=by intro h;refine Bb ?_;refine AB ?_;refine AC ?_;exact h.h):p:=i ⟨h⟩
theorem Hp {p q:Prop} (h:q) (i:CU q→p:=by intro h;refine Bb ?_;refine AJ ?_;exact h.h):p:=i ⟨h⟩
theorem HQ {p q:Prop} (h:q) (i:CU q→p:=by intro h;refine Bb ?_;refine AJ ?_;refine AC ?_;exact h.h):p:=i ⟨h⟩
theorem IU {p q:Prop} (h:q) (i:CU q→p:=by intro h;refine Bb ?_;refine AJ ?_;refine AB ?_;exact h.h):p:=i ⟨h⟩
theorem RG {p q:Prop} (h:q) (i:CU q→p:=by intro h;refine Bb ?_;refine AJ ?_;refine AB ?_;refine AC ?_;exact h.h):p:=i ⟨h⟩
theorem XM {p q:Prop} (h:q) (i:CU q→p:=by intro h;refine Bb ?_;refine AP ?_;exact h.h):p:=i ⟨h⟩
theorem IV {p q:Prop} (h:q) (i:CU q→p:=by intro h;refine Bb ?_;refine AP ?_;refine AC ?_;exact h.h):p:=i ⟨h⟩
theorem iS {p q:Prop} (h:q) (i:CU q→p:=by intro h;refine Bb ?_;refine AP ?_;refine AB ?_;exact h.h):p:=i ⟨h⟩
theorem iK {p q:Prop} (h:q) (i:CU q→p:=by intro h;refine Bb ?_;refine AP ?_;refine AB ?_;refine AC ?_;exact h.h):p:=i ⟨h⟩
theorem iL {p q:Prop} (h:q) (i:CU q→p:=by intro h;refine Bb ?_;refine AP ?_;refine AJ ?_;exact h.h):p:=i ⟨h⟩
theorem RH {p q:Prop} (h:q) (i:CU q→p:=by intro h;refine Bb ?_;refine AP ?_;refine AJ ?_;refine AC ?_;exact h.h):p:=i ⟨h⟩
theorem iM {p q:Prop} (h:q) (i:CU q→p:=by intro h;refine Bb ?_;refine AP ?_;refine AJ ?_;refine AB ?_;exact h.h):p:=i ⟨h⟩
theorem XN {p q:Prop} (h:q) (i:CU q→p:=by intro h;refine Bb ?_;refine AP ?_;refine AJ ?_;refine AB ?_;refine AC ?_;exact h.h):p:=i ⟨h⟩
theorem iT {p q:Prop} (h:q) (i:CU q→p:=by intro h;refine Bb ?_;refine Bb ?_;exact h.h):p:=i ⟨h⟩
theorem iN {p q:Prop} (h:q) (i:CU q→p:=by intro h;refine Bb ?_;refine Bb ?_;refine AC ?_;exact h.h):p:=i ⟨h⟩
theorem RI {p q:Prop} (h:q) (i:CU q→p:=by intro h;refine Bb ?_;refine Bb ?_;refine AB ?_;exact h.h):p:=i ⟨h⟩
theorem iO {p q:Prop} (h:q) (i:CU q→p:=by intro h;refine Bb ?_;refine Bb ?_;refine AB ?_;refine AC ?_;exact h.h):p:=i ⟨h⟩
theorem iU {p q:Prop} (h:q) (i:CU q→p:=by intro h;refine Bb ?_;refine Bb ?_;refine AJ ?_;exact h.h):p:=i ⟨h⟩
theorem iW {p q:Prop} (h:q) (i:CU q→p:=by intro h;refine Bb ?_;refine Bb ?_;refine AJ ?_;refine AC ?_;exact h.h):p:=i ⟨h⟩
theorem iX {p q:Prop} (h:q) (i:CU q→p:=by intro h;refine Bb ?_;refine Bb ?_;refine AJ ?_;refine AB ?_;exact h.h):p:=i ⟨h⟩
theorem iP {p q:Prop} (h:q) (i:CU q→p:=by intro h;refine Bb ?_;refine Bb ?_;refine AJ ?_;refine AB ?_;refine AC ?_;exact h.h):p:=i ⟨h⟩
theorem XO {p q:Prop} (h:q) (i:CU q→p:=by intro h;refine Bb ?_;refine Bb ?_;refine AP ?_;exact h.h):p:=i ⟨h⟩
section
variable {c:Cx} {k:List DW} {E:Au} {hp:AA} {ops:Array Oper} {cs:CF}
theorem xl {n:Nat} {d:Tmp} {ty:TypeId} {pos:String} {af:Array Edge} {g:Option (Nat×Bool)} {rest:List (Nat×Oper)} {t:TypeId} {x:Operand} {ad:Addr} {v:Value} (hc:Az hp ad=some v) (hx:ev E x=some (.pointer (some ad))) (h:XR c cs ops rest k ((d,v)::E) hp) (ht:D6 c.P t=true:=by exact rfl) (hcl:Jc (cs n ⟨some d,.load t x,ty,pos,af,g⟩)=true:=by exact rfl) (hf:Nat.blt d c.fn.ntmps=true:=by exact rfl) (hw:Dv ops E ⟨some d,.load t x,ty,pos,af,g⟩=some true:=by exact rfl):XR c cs ops ((n,⟨some d,.load t x,ty,pos,af,g⟩)::rest) k E hp:=AD (Na hc hx ht hcl) hf hw h
theorem xc {n:Nat} {d:Tmp} {ty:TypeId} {pos:String} {af:Array Edge} {g:Option (Nat×Bool)} {rest:List (Nat×Oper)} {t:TypeId} {x:Operand} {b:Nat} {h0:AA} {rs:List AE} {p:Nat} {T:TypeId} {us:List Value} {v:Value} (st:St b h0 hp rs) (j i:Nat) (h:XR c cs ops rest k ((d,v)::E) hp) (hj:rs[j]? =some (pt p T us):=by exact rfl) (hv:us[i]? =some v:=by exact rfl) (hx:ev E x=some (.pointer (some ⟨p,i,none⟩)):=by exact rfl) (ht:D6 c.P t=true:=by exact rfl) (hcl:Jc (cs n ⟨some d,.load t x,ty,pos,af,g⟩)=true:=by exact rfl) (hf:Nat.blt d c.fn.ntmps=true:=by exact rfl) (hw:Dv ops E ⟨some d,.load t x,ty,pos,af,g⟩=some true:=by exact rfl):XR c cs ops ((n,⟨some d,.load t x,ty,pos,af,g⟩)::rest) k E hp:=AD (Na (st.cell j hj hv) hx ht hcl) hf hw h
theorem xe {n:Nat} {d:Tmp} {ty:TypeId} {pos:String} {af:Array Edge} {g:Option (Nat×Bool)} {rest:List (Nat×Oper)} {t:TypeId} {x:Operand} {ad:Addr} {v:Value} (h:XR c cs ops rest k ((d,v)::E) hp) (hx:ev E x=some (.pointer (some ad)):=by exact rfl) (hc:Az hp ad=some v:=by first | assumption | exact st.cell 0 rfl rfl | exact st.cell 1 rfl rfl | exact st.cell 2 rfl rfl | exact st.cell 3 rfl rfl) (ht:D6 c.P t=true:=by exact rfl) (hcl:Jc (cs n ⟨some d,.load t x,ty,pos,af,g⟩)=true:=by exact rfl) (hf:Nat.blt d c.fn.ntmps=true:=by exact rfl) (hw:Dv ops E ⟨some d,.load t x,ty,pos,af,g⟩=some true:=by exact rfl):XR c cs ops ((n,⟨some d,.load t x,ty,pos,af,g⟩)::rest) k E hp:=AD (Na hc hx ht hcl) hf hw h
theorem xk {n:Nat} {d:Tmp} {ty:TypeId} {pos:String} {af:Array Edge} {g:Option (Nat×Bool)} {rest:List (Nat×Oper)} {f:FuncId} {args:Array Operand} {ts:Array TypeId} {vs:List Value} {Φ:Value→AA→Prop} (h:AG c.P f vs hp Φ) (ha:HG E args.toList=some vs) (K:∀v hp',Φ v hp'→XR c cs ops rest k ((d,v)::E) hp') (hc:EB c.P f=true:=by kernel_rfl) (hd:cs n ⟨some d,.call ⟨.value (.func f),args,ts⟩,ty,pos,af,g⟩= .wild:=by exact rfl) (hf:Nat.blt d c.fn.ntmps=true:=by exact rfl) (hw:Dv ops E ⟨some d,.call ⟨.value (.func f),args,ts⟩,ty,pos,af,g⟩=some true:=by exact rfl):XR c cs ops ((n,⟨some d,.call ⟨.value (.func f),args,ts⟩,ty,pos,af,g⟩)::rest) k E hp:=BN (CT h ha hc) hd hf hw K
theorem xj {n:Nat} {ty:TypeId} {pos:String} {af:Array Edge} {g:Option (Nat×Bool)} {rest:List (Nat×Oper)} {t:TypeId} {x y:Operand} {b:Nat} {h0:AA} {rs:List AE} {p i:Nat} {T:TypeId} {us:List Value} {v:Value} (st:St b h0 hp rs) (j:Nat) (K:∀hp',St b h0 hp' (rs.set j (pt p T (us.set i v)))→XR c cs ops rest k E hp') (hj:rs[j]? =some (pt p T us):=by exact rfl) (hx:ev E x=some (.pointer (some ⟨p,i,none⟩)):=by exact rfl) (hy:ev E y=some v:=by exact rfl) (hi:Nat.blt i us.length=true:=by exact rfl) (ht:D6 c.P t=true:=by exact rfl) (h1:Value.one v=true:=by exact rfl) (hd:cs n ⟨none,.store t x y,ty,pos,af,g⟩= .wild:=by exact rfl) (hw:Dv ops E ⟨none,.store t x y,ty,pos,af,g⟩=some true:=by exact rfl):XR c cs ops ((n,⟨none,.store t x y,ty,pos,af,g⟩)::rest) k E hp:=BT (FE st j hj hx hy hi ht h1) hd hw fun _ hp'=>K hp'
theorem xw {n:Nat} {ty:TypeId} {pos:String} {af:Array Edge} {g:Option (Nat×Bool)} {rest:List (Nat×Oper)} {t:TypeId} {x y:Operand} {b:Nat} {h0:AA} {rs:List AE} {p:Nat} {T:TypeId} {ws us:List Value} {ua:Array Value} (st:St b h0 hp rs) (j:Nat) (h1:∀u∈us,Value.one u=true) (K:∀hp',St b h0 hp' (rs.set j (pt p T us))→XR c cs ops rest k E hp') (hj:rs[j]? =some (pt p T ws):=by exact rfl) (hx:ev E x=some (.pointer (some ⟨p,0,none⟩)):=by exact rfl) (hy:ev E y=some (.agg ua):=by exact rfl) (hu:ua.toList=us:=by exact rfl) (ht:Dx c.P t=some us.length:=by exact rfl) (hl:us.length=ws.length:=by exact rfl) (hd:cs n ⟨none,.store t x y,ty,pos,af,g⟩= .wild:=by exact rfl) (hw:Dv ops E ⟨none,.store t x y,ty,pos,af,g⟩=some true:=by exact rfl):XR c cs ops ((n,⟨none,.store t x y,ty,pos,af,g⟩)::rest) k E hp:=BT (D3 st j hj hx hy hu ht h1 hl) hd hw fun _ hp'=>K hp'
theorem xn {n:Nat} {d:Tmp} {ty:TypeId} {pos:String} {af:Array Edge} {g:Option (Nat×Bool)} {rest:List (Nat×Oper)} {t:TypeId} {b:Nat} {h0:AA} {rs:List AE} {zs:List Value} (st:St b h0 hp rs) (K:∀p hp',St b h0 hp' (pt p t zs::rs)→XR c cs ops rest k ((d,.pointer (some ⟨p,0,none⟩))::E) hp') (hz:MR c.P t=some zs:=by exact rfl) (hd:cs n ⟨some d,.alloc t,ty,pos,af,g⟩= .wild:=by exact rfl) (hf:Nat.blt d c.fn.ntmps=true:=by exact rfl) (hw:Dv ops E ⟨some d,.alloc t,ty,pos,af,g⟩=some true:=by exact rfl):XR c cs ops ((n,⟨some d,.alloc t,ty,pos,af,g⟩)::rest) k E hp:=BN (CK hz) hd hf hw fun _ hp' ⟨p,e,hn⟩=>by subst e;exact K p hp' (st.new hn)
theorem xb {n:Nat} {d:Tmp} {ty:TypeId} {pos:String} {af:Array Edge} {g:Option (Nat×Bool)} {rest:List (Nat×Oper)} {t:TypeId} {x:Operand} {b:Nat} {h0:AA} {rs:List AE} {v:Value} {us:List Value} (st:St b h0 hp rs) (K:∀p hp',St b h0 hp' (pt p t us::rs)→XR c cs ops rest k ((d,.pointer (some ⟨p,0,none⟩))::E) hp') (hx:ev E x=some v:=by exact rfl) (hv:v.cells=us.toArray:=by exact rfl) (hd:cs n ⟨some d,.box t x,ty,pos,af,g⟩= .wild:=by exact rfl) (hf:Nat.blt d c.fn.ntmps=true:=by exact rfl) (hw:Dv ops E ⟨some d,.box t x,ty,pos,af,g⟩=some true:=by exact rfl):XR c cs ops ((n,⟨some d,.box t x,ty,pos,af,g⟩)::rest) k E hp:=BN (Bv hx hv) hd hf hw fun _ hp' ⟨p,e,hn⟩=>by subst e;exact K p hp' (st.new hn)
theorem xa {n:Nat} {d:Tmp} {ty:TypeId} {pos:String} {af:Array Edge} {g:Option (Nat×Bool)} {rest:List (Nat×Oper)} {op:Op} {v:Value} (h1:BB (cs n ⟨some d,op,ty,pos,af,g⟩) c.P ⟨some d,op,ty,pos,af,g⟩ E hp v) (h:XR c cs ops rest k ((d,v)::E) hp) (hf:Nat.blt d c.fn.ntmps=true:=by exact rfl) (hw:Dv ops E ⟨some d,op,ty,pos,af,g⟩=some true:=by exact rfl):XR c cs ops ((n,⟨some d,op,ty,pos,af,g⟩)::rest) k E hp:=AD h1 hf hw h
theorem xv {n:Nat} {d:Tmp} {ty:TypeId} {pos:String} {af:Array Edge} {g:Option (Nat×Bool)} {rest:List (Nat×Oper)} {op:Op} {Φ:Value→AA→Prop} (h1:Bd c.P ⟨some d,op,ty,pos,af,g⟩ E hp Φ) (h:∀v hp',Φ v hp'→XR c cs ops rest k ((d,v)::E) hp') (hd:cs n ⟨some d,op,ty,pos,af,g⟩= .wild:=by exact rfl) (hf:Nat.blt d c.fn.ntmps=true:=by exact rfl) (hw:Dv ops E ⟨some d,op,ty,pos,af,g⟩=some true:=by exact rfl):XR c cs ops ((n,⟨some d,op,ty,pos,af,g⟩)::rest) k E hp:=BN h1 hd hf hw h
theorem Vu {P:Program} {f:FuncId} {fn:Func} {code:Code} {hp:AA} {Φ:Value→AA→Prop} (hf:P.funcs[f]? =some fn) (hb:fn.body=some code) (h:∀w0:World,X (Cx.of P fn Φ w0) [.code code] [] hp) (hn:Nat.ble 0 fn.ntmps=true:=by exact rfl):AG P f [] hp Φ:=It hf hb hn fun w0 _=>h w0
theorem BE {P:Program} {f:FuncId} {fn:Func} {code:Code} {hp:AA} {Φ:Value→AA→Prop} {a0:Value} (hf:P.funcs[f]? =some fn) (hb:fn.body=some code) (h:∀w0:World,X (Cx.of P fn Φ w0) [.code code] [(0,a0)] hp) (hn:Nat.ble 1 fn.ntmps=true:=by exact rfl):AG P f [a0] hp Φ:=It hf hb hn fun w0 _=>h w0
theorem Ac {P:Program} {f:FuncId} {fn:Func} {code:Code} {hp:AA} {Φ:Value→AA→Prop} {a0 a1:Value} (hf:P.funcs[f]? =some fn) (hb:fn.body=some code) (h:∀w0:World,X (Cx.of P fn Φ w0) [.code code] [(0,a0),(1,a1)] hp) (hn:Nat.ble 2 fn.ntmps=true:=by exact rfl):AG P f [a0,a1] hp Φ:=It hf hb hn fun w0 _=>h w0
theorem Bg {P:Program} {f:FuncId} {fn:Func} {code:Code} {hp:AA} {Φ:Value→AA→Prop} {a0 a1 a2:Value} (hf:P.funcs[f]? =some fn) (hb:fn.body=some code) (h:∀w0:World,X (Cx.of P fn Φ w0) [.code code] [(0,a0),(1,a1),(2,a2)] hp) (hn:Nat.ble 3 fn.ntmps=true:=by exact rfl):AG P f [a0,a1,a2] hp Φ:=It hf hb hn fun w0 _=>h w0
theorem Gx {P:Program} {f:FuncId} {fn:Func} {code:Code} {hp:AA} {Φ:Value→AA→Prop} {a0 a1 a2 a3:Value} (hf:P.funcs[f]? =some fn) (hb:fn.body=some code) (h:∀w0:World,X (Cx.of P fn Φ w0) [.code code] [(0,a0),(1,a1),(2,a2),(3,a3)] hp) (hn:Nat.ble 4 fn.ntmps=true:=by exact rfl):AG P f [a0,a1,a2,a3] hp Φ:=It hf hb hn fun w0 _=>h w0
theorem Qb {P:Program} {f:FuncId} {fn:Func} {code:Code} {hp:AA} {Φ:Value→AA→Prop} {a0 a1 a2 a3 a4:Value} (hf:P.funcs[f]? =some fn) (hb:fn.body=some code) (h:∀w0:World,X (Cx.of P fn Φ w0) [.code code] [(0,a0),(1,a1),(2,a2),(3,a3),(4,a4)] hp) (hn:Nat.ble 5 fn.ntmps=true:=by exact rfl):AG P f [a0,a1,a2,a3,a4] hp Φ:=It hf hb hn fun w0 _=>h w0
theorem iQ {P:Program} {f:FuncId} {fn:Func} {code:Code} {hp:AA} {Φ:Value→AA→Prop} {a0 a1 a2 a3 a4 a5:Value} (hf:P.funcs[f]? =some fn) (hb:fn.body=some code) (h:∀w0:World,X (Cx.of P fn Φ w0) [.code code] [(0,a0),(1,a1),(2,a2),(3,a3),(4,a4),(5,a5)] hp) (hn:Nat.ble 6 fn.ntmps=true:=by exact rfl):AG P f [a0,a1,a2,a3,a4,a5] hp Φ:=It hf hb hn fun w0 _=>h w0
theorem iR {P:Program} {f:FuncId} {fn:Func} {code:Code} {hp:AA} {Φ:Value→AA→Prop} {a0 a1 a2 a3 a4 a5 a6:Value} (hf:P.funcs[f]? =some fn) (hb:fn.body=some code) (h:∀w0:World,X (Cx.of P fn Φ w0) [.code code] [(0,a0),(1,a1),(2,a2),(3,a3),(4,a4),(5,a5),(6,a6)] hp) (hn:Nat.ble 7 fn.ntmps=true:=by exact rfl):AG P f [a0,a1,a2,a3,a4,a5,a6] hp Φ:=It hf hb hn fun w0 _=>h w0
end
theorem N4 {E:Au} {i0:Nat} {v0:Value} (h0:E.get i0=some v0):Dc [(i0,v0)] E:= .cons h0 (.nil _)
theorem Cu {E:Au} {i0 i1:Nat} {v0 v1:Value} (h0:E.get i0=some v0) (h1:E.get i1=some v1):Dc [(i0,v0),(i1,v1)] E:= .cons h0 (.cons h1 (.nil _))
theorem DJ {E:Au} {i0 i1 i2:Nat} {v0 v1 v2:Value} (h0:E.get i0=some v0) (h1:E.get i1=some v1) (h2:E.get i2=some v2):Dc [(i0,v0),(i1,v1),(i2,v2)] E:= .cons h0 (.cons h1 (.cons h2 (.nil _)))
theorem Bt {E:Au} {i0 i1 i2 i3:Nat} {v0 v1 v2 v3:Value} (h0:E.get i0=some v0) (h1:E.get i1=some v1) (h2:E.get i2=some v2) (h3:E.get i3=some v3):Dc [(i0,v0),(i1,v1),(i2,v2),(i3,v3)] E:= .cons h0 (.cons h1 (.cons h2 (.cons h3 (.nil _))))
theorem CP {E:Au} {i0 i1 i2 i3 i4:Nat} {v0 v1 v2 v3 v4:Value} (h0:E.get i0=some v0) (h1:E.get i1=some v1) (h2:E.get i2=some v2) (h3:E.get i3=some v3) (h4:E.get i4=some v4):Dc [(i0,v0),(i1,v1),(i2,v2),(i3,v3),(i4,v4)] E:= .cons h0 (.cons h1 (.cons h2 (.cons h3 (.cons h4 (.nil _)))))
theorem CL {E:Au} {i0 i1 i2 i3 i4 i5:Nat} {v0 v1 v2 v3 v4 v5:Value} (h0:E.get i0=some v0) (h1:E.get i1=some v1) (h2:E.get i2=some v2) (h3:E.get i3=some v3) (h4:E.get i4=some v4) (h5:E.get i5=some v5):Dc [(i0,v0),(i1,v1),(i2,v2),(i3,v3),(i4,v4),(i5,v5)] E:= .cons h0 (.cons h1 (.cons h2 (.cons h3 (.cons h4 (.cons h5 (.nil _))))))
theorem Fq {E:Au} {i0 i1 i2 i3 i4 i5 i6:Nat} {v0 v1 v2 v3 v4 v5 v6:Value} (h0:E.get i0=some v0) (h1:E.get i1=some v1) (h2:E.get i2=some v2) (h3:E.get i3=some v3) (h4:E.get i4=some v4) (h5:E.get i5=some v5) (h6:E.get i6=some v6):Dc [(i0,v0),(i1,v1),(i2,v2),(i3,v3),(i4,v4),(i5,v5),(i6,v6)] E:= .cons h0 (.cons h1 (.cons h2 (.cons h3 (.cons h4 (.cons h5 (.cons h6 (.nil _)))))))
theorem FF {E:Au} {i0 i1 i2 i3 i4 i5 i6 i7:Nat} {v0 v1 v2 v3 v4 v5 v6 v7:Value} (h0:E.get i0=some v0) (h1:E.get i1=some v1) (h2:E.get i2=some v2) (h3:E.get i3=some v3) (h4:E.get i4=some v4) (h5:E.get i5=some v5) (h6:E.get i6=some v6) (h7:E.get i7=some v7):Dc [(i0,v0),(i1,v1),(i2,v2),(i3,v3),(i4,v4),(i5,v5),(i6,v6),(i7,v7)] E:= .cons h0 (.cons h1 (.cons h2 (.cons h3 (.cons h4 (.cons h5 (.cons h6 (.cons h7 (.nil _))))))))
theorem Vv {E:Au} {i0 i1 i2 i3 i4 i5 i6 i7 i8:Nat} {v0 v1 v2 v3 v4 v5 v6 v7 v8:Value} (h0:E.get i0=some v0) (h1:E.get i1=some v1) (h2:E.get i2=some v2) (h3:E.get i3=some v3) (h4:E.get i4=some v4) (h5:E.get i5=some v5) (h6:E.get i6=some v6) (h7:E.get i7=some v7) (h8:E.get i8=some v8):Dc [(i0,v0),(i1,v1),(i2,v2),(i3,v3),(i4,v4),(i5,v5),(i6,v6),(i7,v7),(i8,v8)] E:= .cons h0 (.cons h1 (.cons h2 (.cons h3 (.cons h4 (.cons h5 (.cons h6 (.cons h7 (.cons h8 (.nil _)))))))))
theorem Qd {E:Au} {i0 i1 i2 i3 i4 i5 i6 i7 i8 i9:Nat} {v0 v1 v2 v3 v4 v5 v6 v7 v8 v9:Value} (h0:E.get i0=some v0) (h1:E.get i1=some v1) (h2:E.get i2=some v2) (h3:E.get i3=some v3) (h4:E.get i4=some v4) (h5:E.get i5=some v5) (h6:E.get i6=some v6) (h7:E.get i7=some v7) (h8:E.get i8=some v8) (h9:E.get i9=some v9):Dc [(i0,v0),(i1,v1),(i2,v2),(i3,v3),(i4,v4),(i5,v5),(i6,v6),(i7,v7),(i8,v8),(i9,v9)] E:= .cons h0 (.cons h1 (.cons h2 (.cons h3 (.cons h4 (.cons h5 (.cons h6 (.cons h7 (.cons h8 (.cons h9 (.nil _))))))))))
def z0:= @List.set_cons_zero
def z1:= @List.set_cons_succ
def z2:= @List.length_append
def z3:= @List.length_map
def z4:= @List.nil_append
def z5:= @List.cons_append
def z6:= @List.length_take
def z7:= @List.length_drop
def z8:= @List.append_assoc
def z9:= @List.getElem?_eq_getElem
def za:= @List.take_of_length_le
def zb:= @List.perm_append_comm_assoc
def zc:= @List.getElem?_eq_some_iff
def ze:= @List.length_cons
def zf:= @Nat.mul_one
def zg:= @List.length_replicate
def zh:= @List.getElem?_append_right
def zi:= @List.getElem?_append_left
def zj:= @List.map_cons
def zk:= @List.length_nil
def zl:= @List.not_mem_nil
def zm:= @List.length_singleton
def zo:= @List.mem_singleton
def zp:= @List.mem_cons_self
def zq:= @List.mem_cons_of_mem
def zr:= @List.getElem?_map
def zt:= @List.flatMap_cons
def zu:= @decide_eq_false
def zw:= @Nat.le_trans
end Go.Bn
end

section
namespace Go.Bn
open Go Go.ChangeShapes Go.WideShapes
theorem Xg {w:World} {x:Addr} {v:Value} (h:w.cell? (x.add 0)=some v):x=⟨x.block,x.off,none⟩:=by
 rw [RX]at h
 unfold World.cell? at h
 split at h
 ·cases hs:x.spot with
  | none=>cases x;simp_all
  | some s=>rw [hs]at h;simp at h
 ·cases h
theorem dj {W:World} {x:Addr} {vs:List Value} (hc:∀i u,vs[i]? =some u→W.cell? (x.add i)=some u):Rd W.heap (some x) vs:=by
 cases vs with
 | nil=>exact .inl rfl
 | cons v r=>
  have h0:=Xg (hc 0 v rfl)
  refine .inr ⟨x.block,x.off,by rw [←h0],fun i u hu=> ?_⟩
  have:=hc i u hu
  rw [h0,E6]at this
  exact this
section
variable {H:Type} {enc:TypeId×Value→H} {P:Program} {W:World} {base:Nat} {spare:Nat→Bool} {held:Bool} {t e:TypeId} {a:Option Addr} {len cap:Nat} {d:DataW H} {ps:List MemPlace}
theorem ge {k:IntKind} {n:Int} (h:(Lit.int k n).wf=true):AI k n:=by
 cases k
 ·exact bounds_i8 h
 ·exact bounds_i16 h
 ·exact bounds_i32 h
 ·exact bounds_i64 h
 ·exact bounds_u8 h
 ·exact bounds_u16 h
 ·exact bounds_u32 h
 ·exact bounds_u64 h
end
end Go.Bn
end

section
namespace Go.Bn
open Go
theorem Sv {α:Type} (f:α→List Value) (s:Nat) (hf:∀x,(f x).length=s):∀ (l:List α) (i j:Nat) (hi:i<l.length),j<s→(l.flatMap f)[i*s+j]? =(f l[i])[j]?
 | x::r,0,j,_,hj=>by
  rw [zt,Nat.zero_mul,Nat.zero_add,zi (by rw [hf];exact hj)];rfl
 | x::r,i+1,j,hi,hj=>by
  rw [zt,zh (by rw [hf,Nat.add_mul,Nat.one_mul];omega),hf,show (i+1)*s+j-s=i*s+j by rw [Nat.add_mul,Nat.one_mul];omega]
  exact Sv f s hf r i j (by simpa using hi) hj
theorem EO {α:Type} (f:α→List Value) (s:Nat) (hf:∀x,(f x).length=s) (l:List α):(l.flatMap f).length=l.length*s:=by
 induction l with
 | nil=>simp
 | cons x r ih=>rw [zt,z2,hf,ih,ze,Nat.add_mul,Nat.one_mul];omega
theorem Rd.flat {α:Type} {hp:AA} {A:Option Addr} {l:List α} (f:α→List Value) (s:Nat) (h:Rd hp A (l.flatMap f)) (hf:∀x,(f x).length=s) (hs:0<s) (hl:0<l.length):
  ∃b o,A=some ⟨b,o,none⟩∧∀i (hi:i<l.length) j v,(f l[i])[j]? =some v→Az hp ⟨b,o+i*s+j,none⟩=some v:=by
 obtain ⟨b,o,e,hc⟩:=h.at_ (by rw [EO f s hf];exact Nat.mul_pos hl hs)
 refine ⟨b,o,e,fun i hi j v hv=> ?_⟩
 have hj:j<s:=by
  have:=(zc.1 hv).1
  rwa [hf]at this
 have:=hc (i*s+j) v (by rw [Sv f s hf l i j hi hj];exact hv)
 rwa [←Nat.add_assoc]at this
theorem St.flatAt {α:Type} (f:α→List Value) (s:Nat) (hf:∀x,(f x).length=s) (hs:0<s) {B T g n c i:Nat} {l:List α} {x:α} {rs:List AE} {hb h0:AA} (st:St B hb h0 rs) (j:Nat) (hj:rs[j]? =some (Bn.row T s (.slice (some ⟨g,0,none⟩) n c) (l.flatMap f))) (h:l[i]? =some x):
  ∀j u,(f x)[j]? =some u→Az h0 ⟨g,0+i*s+j,none⟩=some u:=by
 intro q u hu
 obtain ⟨hi,he⟩:=zc.1 h
 have hrd:=(st.rdS j hj).2
 obtain ⟨b,o,he2,hc⟩:=Rd.flat f s hrd hf hs (by omega)
 cases he2
 exact hc i hi q u (by rw [he];exact hu)
end Go.Bn
end

section
namespace Go.Bn
open Go Go.ChangeShapes Go.WideShapes Go.Deep
section
variable {H:Type} {enc:TypeId×Value→H} {P:Program} {W:World} {base:Nat} {spare:Nat→Bool} {held:Bool} {t e:TypeId} {a:Option Addr} {len cap:Nat} {d:DataW H} {ps:List MemPlace}
end
inductive Kd where
  | i (k:IntKind)
  | b
def Kd.ok:Kd→Value→Prop
  | .i k,v=>∃n,v= .int k n∧AI k n
  | .b,v=>∃x,v= .bool x
section
variable {H:Type} {enc:TypeId×Value→H} {P:Program} {W:World} {base:Nat} {spare:Nat→Bool} {held:Bool}
end
end Go.Bn
end

section
namespace Go.Bn
open Go Go.ChangeShapes Go.WideShapes Go.Deep
inductive Sh where
  | i (k:IntKind)
  | b
  | str
  | sl (ks:List Sh)
def Ea (p:Sh→Value→Prop):List Sh→List Value→Prop
  | [],[]=>True
  | k::ks,v::vs=>p k v∧Ea p ks vs
  | _,_=>False
theorem Ra {p:Sh→Value→Prop}:∀ {ks ks':List Sh} {vs vs':List Value},Ea p ks vs→Ea p ks' vs'→Ea p (ks++ks') (vs++vs')
 | [],_,[],_,_,h=>h
 | _::ks,_,_::vs,_,h,h'=>⟨h.1,Ra (ks:=ks) h.2 h'⟩
 | [],_,_::_,_,h,_=>h.elim
 | _::_,_,[],_,h,_=>h.elim
theorem Fa {p:Sh→Value→Prop} {k:Sh} {ks:List Sh} {l:List Value} (h:Ea p (k::ks) l):∃v r,l=v::r∧p k v∧Ea p ks r:=by
 cases l with
 | nil=>exact h.elim
 | cons v r=>exact ⟨v,r,rfl,h.1,h.2⟩
theorem Md {p:Sh→Value→Prop} {l:List Value} (h:Ea p [] l):l=[]:=by
 cases l with
 | nil=>rfl
 | cons v r=>exact h.elim
def Dz (hp:AA):Nat→Sh→Value→Prop
  | 0,_,_=>False
  | _+1,.i k,v=>∃n,v= .int k n∧AI k n
  | _+1,.b,v=>∃x,v= .bool x
  | _+1,.str,v=>∃s:ByteArray,v= .string s∧s.size≤maxLen
  | d+1,.sl ks,v=>∃A n c,v= .slice A n c∧n≤c∧c≤maxLen∧∃ll:List (List Value),ll.length=n∧Rd hp A ll.flatten∧∀x∈ll,Ea (Dz hp d) ks x
def MI (P : Program) (rec : TypeId → Option (List Sh)) : Nat → List Field → Option (List Sh)
  | _, [] => some []
  | o, f :: r => match Nat.beq f.offset o, rec f.type with
    | true, some ks => match Nat.beq (P.cellsOf f.type) ks.length, MI P rec (o + ks.length) r with
      | true, some rest => some (ks ++ rest)
      | _, _ => none
    | _, _ => none
def Iu (P : Program) : Nat → TypeId → Option (List Sh)
  | 0, _ => none
  | d + 1, t => match P.underlying t with
    | some (.int k) => some [.i k]
    | some .bool => some [.b]
    | some .string => some [.str]
    | some (.slice e) => match Iu P d e with
      | some ks => match Nat.beq (P.cellsOf e) ks.length && Nat.blt 0 ks.length with
        | true => some [.sl ks]
        | false => none
      | none => none
    | some (.struct fs) => MI P (Iu P d) 0 fs.toList
    | _ => none
theorem UU {hp:AA}:∀ (d d':Nat) {s:Sh} {v:Value},d≤d'→Dz hp d s v→Dz hp d' s v
 | 0,_,_,_,_,h=>h.elim
 | d+1,0,_,_,h,_=>by omega
 | d+1,d'+1,.i _,_,_,h=>h
 | d+1,d'+1,.b,_,_,h=>h
 | d+1,d'+1,.str,_,_,h=>h
 | d+1,d'+1,.sl ks,v,hd,h=>by
  obtain ⟨A,n,c,rfl,h1,h2,ll,h3,h4,h5⟩:=h
  refine ⟨A,n,c,rfl,h1,h2,ll,h3,h4,fun x hx=> ?_⟩
  have:=h5 x hx
  clear h5 h4 h3
  have key:∀ (ks:List Sh) (x:List Value),Ea (Dz hp d) ks x→Ea (Dz hp d') ks x:=by
   intro ks
   induction ks with
   | nil=>
    intro x hx
    cases x with
    | nil=>trivial
    | cons _ _=>exact hx.elim
   | cons k r ih=>
    intro x hx
    cases x with
    | nil=>exact hx
    | cons v vs=>exact ⟨UU d d' (by omega) hx.1,ih vs hx.2⟩
  exact key ks x this
theorem Rb {hp:AA} {d d':Nat} (h:d≤d'):∀ {ks:List Sh} {x:List Value},Ea (Dz hp d) ks x→Ea (Dz hp d') ks x
 | [],[],_=>trivial
 | [],_::_,hx=>hx.elim
 | _::_,[],hx=>hx.elim
 | _::_,_::_,hx=>⟨UU d d' h hx.1,Rb h hx.2⟩
theorem Sw {s:Nat} (hs:0<s):∀ (ll:List (List Value)),(∀x∈ll,x.length=s)→ll.flatten.length=ll.length*s∧∀k,k<ll.length*s→ll.flatten[k]? =(ll.getD (k/s) [])[k%s]?
 | [],_=>⟨by simp,fun k hk=>by simp at hk⟩
 | x::r,h=>by
  have hx:=h x zp
  obtain ⟨h1,h2⟩:=Sw hs r fun y hy=>h y (zq _ hy)
  refine ⟨by simp only [List.flatten_cons,z2,h1,hx,ze,Nat.add_mul];omega,fun k hk=> ?_⟩
  rw [List.flatten_cons]
  by_cases hk2:k<s
  ·rw [zi (by omega),Nat.div_eq_of_lt hk2,Nat.mod_eq_of_lt hk2];rfl
  ·rw [zh (by omega),hx]
   have hk3:k-s<r.length*s:=by
    rw [ze,Nat.add_mul]at hk;omega
   rw [h2 _ hk3]
   have e1:k/s=(k-s)/s+1:=by rw [Nat.div_eq_sub_div hs (by omega)]
   have e2:k%s=(k-s)%s:=Nat.mod_eq_sub_mod (by omega)
   rw [e1,e2];rfl
section
variable {H:Type} {enc:TypeId×Value→H} {P:Program} {W:World} {base:Nat} {spare:Nat→Bool} {held:Bool}
theorem OF:∀ (dd:Nat) {t:TypeId} {ks:List Sh} {n:Nat} {cs:List Value} {y:DataW H×List MemPlace},Iu P dd t=some ks→cs.length=ks.length→DataW.trod enc P W base spare held n t cs=some y→Ea (Dz W.heap dd) ks cs
 | 0,_,_,_,_,_,h,_,_=>by simp [Iu]at h
 | dd+1,t,ks,n,cs,y,h,hl,ht=>by
  unfold Iu at h
  split at h
  ·rename_i k hu
   cases h
   obtain ⟨m,rfl,_,hw⟩:=DataW.trod_int hu ht
   exact ⟨⟨m,rfl,ge hw⟩,trivial⟩
  ·rename_i hu
   cases h
   obtain ⟨b,rfl,_⟩:=DataW.trod_bool hu ht
   exact ⟨⟨b,rfl⟩,trivial⟩
  ·rename_i hu
   cases h
   obtain ⟨b,rfl,_,hm⟩:=DataW.trod_string hu ht
   exact ⟨⟨b,rfl,hm⟩,trivial⟩
  ·rename_i e hu
   split at h
   ·rename_i ks' hk
    split at h
    ·rename_i hb
     cases h
     have hb1:P.cellsOf e=ks'.length:=Nat.eq_of_beq_eq_true (by simp only [Bool.and_eq_true]at hb;exact hb.1)
     have hb2:0<ks'.length:=by simp only [Bool.and_eq_true,Nat.blt_eq]at hb;exact hb.2
     rcases open_slice hu ht with ⟨hcs,_⟩ | ⟨x,len,cap,m,n',D,Pl,hcs,_,hle,hm,hmm,_,hx⟩
     ·subst hcs
      exact ⟨⟨none,0,0,rfl,Nat.le_refl _,by simp [maxLen],[],rfl,.inl rfl,by simp⟩,trivial⟩
     ·subst hcs
      refine ⟨?_,trivial⟩
      have hlm:len≤m:=by rw [hmm];split <;> omega
      have each:∀i,i<len→∃z:List Value,z.length=ks'.length∧(∀j,j<ks'.length→W.cell? (x.add (i*ks'.length+j))=z[j]?)∧Ea (Dz W.heap dd) ks' z:=by
       intro i hi
       obtain ⟨cs',h1,h2⟩:=hx i (by omega)
       rw [hb1]at h1
       obtain ⟨_,hlen,hcell⟩:=World.cells?_some h1
       exact ⟨cs',hlen,fun j hj=>by rw [←hcell j hj,Deep.add_add],OF dd hk hlen h2⟩
      obtain ⟨X,hX⟩:=Deep.choose_lt each
      refine ⟨some x,len,cap,rfl,hle,hm,(List.range len).map X,by simp,dj fun k u hk=> ?_,?_⟩
      ·obtain ⟨f1,f2⟩:=Sw hb2 ((List.range len).map X) (by
        intro z hz;obtain ⟨i,hi,rfl⟩:=List.mem_map.1 hz;exact (hX i (List.mem_range.1 hi)).1)
       have hk2:k<len*ks'.length:=by
        have:=(zc.1 hk).1
        rwa [f1,z3,List.length_range]at this
       have hi:k/ks'.length<len:=Nat.div_lt_of_lt_mul (by rwa [Nat.mul_comm]at hk2)
       have hj:k%ks'.length<ks'.length:=Nat.mod_lt _ hb2
       have hkk:k/ks'.length*ks'.length+k%ks'.length=k:=by rw [Nat.mul_comm];exact Nat.div_add_mod k _
       have h3:=f2 k (by simpa using hk2)
       have h4:=(hX (k/ks'.length) hi).2.1 (k%ks'.length) hj
       rw [hkk]at h4
       rw [h4,←hk,h3]
       simp [List.getD,hi]
      ·intro z hz
       obtain ⟨i,hi,rfl⟩:=List.mem_map.1 hz
       exact (hX i (List.mem_range.1 hi)).2.2
    ·cases h
   ·cases h
  ·rename_i fs hu
   obtain ⟨xs,m,_,_,hlen,hxl,hf⟩:=DataW.trod_struct hu ht
   have hf':∀ (i:Nat) (f:Field),fs.toList[i]? =some f→∃z,DataW.trod enc P W base spare held m f.type ((cs.drop f.offset).take (P.cellsOf f.type))=some z:=by
    intro i f hi
    have hlt:=(zc.1 hi).1
    have h1:=hf i f (by simpa using hi)
    rw [z9 (show i<xs.length by rw [hxl];simpa using hlt)]at h1
    exact ⟨_,h1⟩
   clear hf hxl ht hu
   generalize fs.toList=l at h hf'
   suffices key:∀ (l:List Field) (o:Nat) (ks:List Sh),MI P (Iu P dd) o l=some ks→(∀ (i:Nat) (f:Field),l[i]? =some f→∃z,DataW.trod enc P W base spare held m f.type ((cs.drop f.offset).take (P.cellsOf f.type))=some z)→cs.length=o+ks.length→Ea (Dz W.heap (dd+1)) ks (cs.drop o) by
    have:=key l 0 ks h hf' (by omega)
    simpa using this
   intro l
   induction l with
   | nil=>
    intro o ks h _ hl
    simp only [MI]at h
    cases h
    rw [List.drop_of_length_le (by simp at hl;omega)]
    exact trivial
   | cons f r ih=>
    intro o ks h hf hl
    simp only [MI]at h
    split at h
    ·rename_i k1 ho hk
     split at h
     ·rename_i rest hc hr
      cases h
      have ho:=Nat.eq_of_beq_eq_true ho
      have hc:=Nat.eq_of_beq_eq_true hc
      obtain ⟨z,hz⟩:=hf 0 f rfl
      rw [ho,hc]at hz
      rw [z2]at hl
      have g1:=Rb (Nat.le_succ dd) (OF dd hk (by rw [z6,z7];omega) hz)
      have g2:=ih (o+k1.length) rest hr (fun i f hi=>hf (i+1) f hi) (by omega)
      have:=Ra g1 g2
      rwa [←List.drop_drop,List.take_append_drop]at this
     ·cases h
    ·cases h
  ·cases h
theorem Xw {base':Nat} {t:TypeId} {ks:List Sh} {v:Value} {d:DataW H} {ps:List MemPlace} {fs:Array Field} (dd:Nat) (hu:P.underlying t=some (.struct fs)) (hk:Iu P dd t=some ks) (hc:P.cellsOf t=ks.length) (hv:Value.okWide P W .any base' t v) (h:DataW.Trod enc P W base spare held t v d ps):
  ∃cs,v= .agg cs∧Ea (Dz W.heap dd) ks cs.toList:=by
 obtain ⟨cs,rfl,hs⟩:=okWide_struct hu hv
 obtain ⟨n,hn⟩:=h
 refine ⟨cs,rfl,OF dd hk (by rw [Array.length_toList,hs,hc]) (by simpa [Value.cells]using hn)⟩
theorem Rj {t:TypeId} {ks:List Sh} {a:Option Addr} {len cap:Nat} {d:DataW H} {ps:List MemPlace} (dd:Nat) (hk:Iu P dd t=some [.sl ks]) (h:DataW.Trod enc P W base spare held t (.slice a len cap) d ps):
  Dz W.heap dd (.sl ks) (.slice a len cap):=by
 obtain ⟨n,hn⟩:=h
 have:=OF (cs:=[.slice a len cap]) dd hk rfl (by simpa [Value.cells]using hn)
 exact this.1
end
theorem bn {hp:AA} {d:Nat} {k:IntKind} {v:Value} (h:Dz hp d (.sl [.i k]) v):∃ (A:Option Addr) (n c:Nat) (l:List Int),v= .slice A n c∧n≤c∧c≤maxLen∧l.length=n∧Rd hp A (l.map (Value.int k))∧∀x∈l,AI k x:=by
 cases d with
 | zero=>exact h.elim
 | succ d=>
  obtain ⟨A,n,c,rfl,h1,h2,ll,h3,h4,h5⟩:=h
  have key:∀ll:List (List Value),(∀x∈ll,Ea (Dz hp d) [.i k] x)→∃l:List Int,l.length=ll.length∧ll.flatten=l.map (Value.int k)∧∀x∈l,AI k x:=by
   intro ll
   induction ll with
   | nil=>intro _;exact ⟨[],rfl,rfl,by simp⟩
   | cons x r ih=>
    intro hx
    obtain ⟨l,e1,e2,e3⟩:=ih fun y hy=>hx y (zq _ hy)
    obtain ⟨v,rr,rfl,hv,hn⟩:=Fa (hx x zp)
    obtain rfl:=Md hn
    cases d with
    | zero=>exact hv.elim
    | succ d=>
     obtain ⟨z,rfl,hz⟩:=hv
     exact ⟨z::l,by simp [e1],by simp [e2],by intro y hy;rcases List.mem_cons.1 hy with rfl | hy;exact hz;exact e3 y hy⟩
  obtain ⟨l,e1,e2,e3⟩:=key ll h5
  exact ⟨A,n,c,l,rfl,h1,h2,by omega,by rw [←e2];exact h4,e3⟩
theorem US {hp:AA} {d:Nat} {v:Value} (h:Dz hp d (.sl [.i .u8]) v):∃ (A:Option Addr) (n c:Nat) (l:List UInt8),v= .slice A n c∧n≤c∧c≤maxLen∧l.length=n∧Rd hp A (l.map AN):=by
 obtain ⟨A,n,c,l,rfl,h1,h2,h3,h4,h5⟩:=bn h
 refine ⟨A,n,c,l.map fun z=>UInt8.ofNat z.toNat,rfl,h1,h2,by simpa using h3,?_⟩
 have e:(l.map fun z=>UInt8.ofNat z.toNat).map AN=l.map (Value.int .u8):=by
  rw [List.map_map]
  refine List.map_congr_left fun z hz=> ?_
  have hb:=h5 z hz
  simp only [AI]at hb
  simp only [Function.comp,AN]
  congr 1
  have:(UInt8.ofNat z.toNat).toNat=z.toNat:=by simp;omega
  rw [this];omega
 rw [e];exact h4
structure BR where
  a:Option Addr
  n:Nat
  c:Nat
  l:List UInt8
@[reducible] def BR.v (b:BR):Value:= .slice b.a b.n b.c
structure BR.ok (hp:AA) (b:BR):Prop where
  rd:Rd hp b.a (b.l.map AN)
  len:b.l.length=b.n
  le:b.n≤b.c
  cap:b.c≤maxLen
theorem BR.ok.ext {h0 hp:AA} {b:BR} (h:b.ok h0) (hx:AV h0 hp):b.ok hp:=⟨h.rd.ext hx,h.len,h.le,h.cap⟩
theorem Jd {hp:AA} {d:Nat} {k:IntKind} {v:Value} (h:Dz hp d (.i k) v):∃x,v= .int k x∧AI k x:=by
 cases d with
 | zero=>exact h.elim
 | succ d=>exact h
theorem bm {hp:AA} {d:Nat} {v:Value} (h:Dz hp d .b v):∃x,v= .bool x:=by
 cases d with
 | zero=>exact h.elim
 | succ d=>exact h
theorem UV {hp:AA} {d:Nat} {v:Value} (h:Dz hp d .str v):∃s:ByteArray,v= .string s∧s.size≤maxLen:=by
 cases d with
 | zero=>exact h.elim
 | succ d=>exact h
end Go.Bn
end

section
namespace Go.Bn
def BM:Nat→Nat→List Bool
  | 0,_=>[]
  | k+1,x=>(x%2==1)::BM k (x/2)
def AR (l:List UInt8):List Bool:=l.flatMap fun b=>BM 8 b.toNat
def wd (m:Nat) (k:Int):Nat:=(max 0 (min (m:Int) k)).toNat
theorem OL (m:Nat) (k:Int):wd m k≤m:=by unfold wd;omega
theorem gd (m:Nat) (k:Int):((wd m k:Nat):Int)=max 0 (min (m:Int) k):=by unfold wd;omega
theorem DE:∀ (k x:Nat),(BM k x).length=k
 | 0,_=>rfl
 | k+1,x=>by simp [BM,DE k]
theorem Gk (l:List UInt8):(AR l).length=8*l.length:=by
 induction l with
 | nil=>rfl
 | cons b l ih=>
  simp only [AR,zt,z2,DE,ze]at ih ⊢
  omega
theorem Rs (l m:List UInt8):AR (l++m)=AR l++AR m:=by simp [AR]
theorem KA:∀ (a b x:Nat),BM (a+b) x=BM a x++BM b (x/2^a)
 | 0,b,x=>by simp [BM]
 | a+1,b,x=>by
  rw [show a+1+b=(a+b)+1 by omega]
  simp only [BM,z5]
  rw [KA a b (x/2),Nat.div_div_eq_div_mul,show 2*2^a=2^(a+1) by rw [Nat.pow_succ];omega]
theorem K6:∀ (k x y:Nat),x%2^k=y%2^k→BM k x=BM k y
 | 0,_,_,_=>rfl
 | k+1,x,y,h=>by
  have h1:x%2=y%2:=by
   have:=congrArg (· % 2) h
   simpa [Nat.pow_succ,Nat.mod_mul_left_mod]using this
  have h2:x/2%2^k=y/2%2^k:=by
   have e:∀z,z/2%2^k=z%2^(k+1)/2:=by
    intro z
    rw [Nat.pow_succ,Nat.mul_comm,Nat.mod_mul_right_div_self]
   rw [e,e,h]
  simp only [BM,h1,K6 k _ _ h2]
theorem JB (k x:Nat):BM k (x%2^k)=BM k x:=K6 k _ _ (Nat.mod_mod _ _)
theorem YJ {m k x n:Nat} (hx:x<2^m):BM (m+k) (x+n%2^k*2^m)=BM m x++BM k n:=by
 rw [KA]
 congr 1
 ·exact K6 m _ _ (by rw [Nat.add_mul_mod_self_right])
 ·rw [Nat.add_mul_div_right _ _ (Nat.two_pow_pos m),Nat.div_eq_of_lt hx,Nat.zero_add,JB]
theorem Um {m x y:Nat} (hx:x<2^m):x||| (y*2^m)=x+y*2^m:=by
 rw [Nat.mul_comm y,Nat.or_comm,←Nat.two_pow_add_eq_or_of_lt hx,Nat.add_comm]
theorem de {m k x n:Nat} (hx:x<2^m):x+n%2^k*2^m<2^(m+k):=by
 have h1:n%2^k<2^k:=Nat.mod_lt _ (Nat.two_pow_pos k)
 have h2:(n%2^k+1)*2^m≤2^k*2^m:=Nat.mul_le_mul_right _ h1
 rw [Nat.add_mul,Nat.one_mul]at h2
 rw [Nat.pow_add,Nat.mul_comm (2^m)]
 omega
theorem YH (l:List UInt8) (x m:Nat):AR (l++[UInt8.ofNat x])++BM m (x/256)=AR l++BM (8+m) x:=by
 rw [Rs,KA 8 m x,z8]
 congr 1
 simp only [AR,zt,List.flatMap_nil,List.append_nil]
 congr 1
 exact K6 8 _ _ (by simp)
def BS:List Bool→Nat
  | []=>0
  | b::r=>b.toNat+2*BS r
theorem J1:∀l:List Bool,BS l<2^l.length
 | []=>by simp [BS]
 | b::r=>by
  have:=J1 r
  have hb:=Bool.toNat_le b
  simp only [BS,ze,Nat.pow_succ]
  omega
theorem UF (x:Nat):(x%2==1).toNat=x%2:=by
 rcases Nat.mod_two_eq_zero_or_one x with h | h <;> rw [h] <;> rfl
theorem J0:∀ (k x:Nat),BS (BM k x)=x%2^k
 | 0,x=>by simp [BM,BS,Nat.mod_one]
 | k+1,x=>by
  rw [BM,BS,J0 k,UF,Nat.pow_succ,Nat.mul_comm (2^k),Nat.mod_mul]
theorem Ic:∀ (l:List Bool),BM l.length (BS l)=l
 | []=>rfl
 | b::r=>by
  have h1:((b.toNat+2*BS r)%2==1)=b:=by cases b <;> simp [Bool.toNat]
  have h2:(b.toNat+2*BS r)/2=BS r:=by have:=Bool.toNat_le b;omega
  rw [ze,BM,BS,h1,h2,Ic r]
theorem Q2:∀ (l m:List Bool),BS (l++m)=BS l+2^l.length*BS m
 | [],m=>by simp [BS]
 | b::r,m=>by
  simp only [z5,BS,Q2 r m,ze,Nat.pow_succ]
  rw [Nat.mul_add,←Nat.mul_assoc,Nat.mul_comm 2 (2^r.length)];omega
theorem Wy (l:List Bool) (j:Nat):BS (l.drop j)=BS l/2^j:=by
 induction j generalizing l with
 | zero=>simp
 | succ j ih=>
  cases l with
  | nil=>simp [BS]
  | cons b r=>
   rw [List.drop_succ_cons,ih,BS,Nat.pow_succ,Nat.mul_comm (2^j) 2,←Nat.div_div_eq_div_mul]
   congr 1
   have:=Bool.toNat_le b
   omega
theorem gI (l:List Bool) (k:Nat):BS (l.take k)=BS l%2^k:=by
 induction k generalizing l with
 | zero=>simp [BS,Nat.mod_one]
 | succ k ih=>
  cases l with
  | nil=>simp [BS]
  | cons b r=>
   rw [List.take_succ_cons,BS,ih,BS,Nat.pow_succ,Nat.mul_comm (2^k),Nat.mod_mul]
   have:=Bool.toNat_le b
   rw [show (b.toNat+2*BS r)%2=b.toNat by omega,show (b.toNat+2*BS r)/2=BS r by omega]
theorem gJ (l:List Bool) (k:Nat):BS (l++List.replicate k false)=BS l:=by
 rw [Q2]
 have:BS (List.replicate k false)=0:=by
  induction k with
  | zero=>rfl
  | succ k ih=>rw [List.replicate_succ,BS,ih];rfl
 rw [this];simp
theorem YL (k:Nat):BM k 0=List.replicate k false:=by
 induction k with
 | zero=>rfl
 | succ k ih=>rw [BM,List.replicate_succ,Nat.zero_div,ih];rfl
def E1 (bs:List Bool):List UInt8:=(List.range ((bs.length+7)/8)).map fun i=>UInt8.ofNat (BS ((bs.drop (8*i)).take 8))
theorem ci (bs:List Bool):(E1 bs).length=(bs.length+7)/8:=by simp [E1]
theorem Ux (b:UInt8) (r:List Bool):E1 (BM 8 b.toNat++r)=b::E1 r:=by
 unfold E1
 rw [z2,DE,show (8+r.length+7)/8=(r.length+7)/8+1 by omega,List.range_succ_eq_map,zj,List.map_map]
 refine List.cons_eq_cons.2 ⟨?_,?_⟩
 ·rw [Nat.mul_zero,List.drop_zero,List.take_append_of_le_length (by rw [DE];omega),za (by rw [DE];omega),J0]
  simp
 ·apply List.map_congr_left
  intro i _
  simp only [Function.comp]
  rw [show 8*(i+1)=8+8*i by omega,←List.drop_drop,List.drop_append_of_le_length (by rw [DE];omega),show List.drop 8 (BM 8 b.toNat)=[]from List.drop_of_length_le (by rw [DE];omega),z4]
theorem Uv (l:List UInt8) (r:List Bool):E1 (AR l++r)=l++E1 r:=by
 induction l with
 | nil=>rfl
 | cons b l ih=>
  have:AR (b::l)=BM 8 b.toNat++AR l:=by simp [AR]
  rw [this,z8,Ux,ih];rfl
theorem Uw (m x:Nat) (hm:m<8) (hx:x<2^m):E1 (BM m x)=if m=0 then []else [UInt8.ofNat x]:=by
 unfold E1
 rw [DE]
 by_cases h:m=0
 ·subst h;simp
 ·rw [if_neg h,show (m+7)/8=1 by omega]
  have e:List.range 1=[0]:=rfl
  rw [e,List.map_singleton,Nat.mul_zero,List.drop_zero,za (by rw [DE];omega),J0,Nat.mod_eq_of_lt hx]
theorem YK (k x:Nat):BM (k+1) x=BM k x++[x/2^k%2==1]:=by
 rw [KA];rfl
end Go.Bn
end

section
namespace Go.Bn
def ET:List UInt8→List UInt8→Nat
  | x::xs,y::ys=>if x=y then ET xs ys+1 else 0
  | _,_=>0
theorem Ty:∀ (x y:List UInt8),ET x y≤x.length∧ET x y≤y.length
 | [],_=>by simp [ET]
 | _::_,[]=>by simp [ET]
 | x::xs,y::ys=>by
  have:=Ty xs ys
  rw [ET]
  split
  ·simp only [ze];omega
  ·simp
def DQ (b:List UInt8) (a d:Nat):Nat:=if d=0∨32768<d∨a<d then 0 else min 258 (ET (b.drop a) (b.drop (a-d)))
theorem Tj (b:List UInt8) (a d:Nat):DQ b a d≤258:=by unfold DQ;split <;> omega
theorem NK (b:List UInt8) (a d:Nat):DQ b a d≤b.length-a:=by
 unfold DQ
 split
 ·omega
 ·have:=(Ty (b.drop a) (b.drop (a-d))).1
  rw [z7]at this
  omega
theorem PX {b:List UInt8} {a d:Nat} (h:DQ b a d≠0):1≤d∧d≤32768∧d≤a∧a<b.length:=by
 have:=NK b a d
 unfold DQ at h
 split at h
 ·exact absurd rfl h
 ·have h2:=NK b a d
  unfold DQ at h2
  rw [if_neg (by assumption)]at h2
  omega
theorem NM {b:List UInt8} {i j:Nat} (hi:i<b.length) (hj:j<b.length):ET (b.drop i) (b.drop j)=if b[i]=b[j]then ET (b.drop (i+1)) (b.drop (j+1))+1 else 0:=by
 rw [List.drop_eq_getElem_cons hi,List.drop_eq_getElem_cons hj,ET]
theorem ap {b y:List UInt8} {i:Nat} (hi:b.length≤i):ET (b.drop i) y=0:=by
 rw [List.drop_of_length_le hi];cases y <;> rfl
theorem Tx:∀ (x y:List UInt8) (i:Nat),i<ET x y→x[i]? =y[i]? ∧i<x.length∧i<y.length
 | [],_,i,h=>by simp [ET]at h
 | _::_,[],i,h=>by simp [ET]at h
 | x::xs,y::ys,i,h=>by
  rw [ET]at h
  split at h
  ·rename_i e
   cases i with
   | zero=>simp [e]
   | succ i=>
    obtain ⟨h1,h2,h3⟩:=Tx xs ys i (by omega)
    exact ⟨by simpa using h1,by simp;omega,by simp;omega⟩
  ·omega
theorem aZ {b:List UInt8} {a d i:Nat} (h:i<DQ b a d):b[a+i]? =b[a+i-d]? ∧a+i<b.length∧1≤d∧d≤a:=by
 have hn:=PX (b:=b) (a:=a) (d:=d) (by omega)
 unfold DQ at h
 rw [if_neg (by omega)]at h
 obtain ⟨h1,h2,_⟩:=Tx _ _ i (Nat.lt_of_lt_of_le h (Nat.min_le_right _ _))
 rw [List.getElem?_drop,List.getElem?_drop]at h1
 rw [z7]at h2
 exact ⟨by rw [h1,show a-d+i=a+i-d by omega],by omega,by omega,by omega⟩
def Di (b:List UInt8) (i:Nat):Nat:=(b.getD i 0).toNat+256*(b.getD (i+1) 0).toNat+65536*(b.getD (i+2) 0).toNat
theorem GR {b:List UInt8} {i:Nat} (h:i<b.length):b.getD i 0=b[i]:=by simp [List.getD,h]
theorem TW {b:List UInt8} {a d:Nat} (ha:a+3≤b.length) (h1:1≤d) (h2:d≤a) (h3:d≤32768):Di b (a-d)=Di b a↔3≤DQ b a d:=by
 unfold DQ
 rw [if_neg (by omega),NM (i:=a) (j:=a-d) (by omega) (by omega),NM (i:=a+1) (j:=a-d+1) (by omega) (by omega),NM (i:=a+1+1) (j:=a-d+1+1) (by omega) (by omega)]
 unfold Di
 rw [GR (show a-d<b.length by omega),GR (show a<b.length by omega),GR (show a-d+1<b.length by omega),GR (show a+1<b.length by omega),GR (show a-d+2<b.length by omega),GR (show a+2<b.length by omega)]
 have e1:∀x y:UInt8,x.toNat=y.toNat↔x=y:=fun x y=>⟨fun h=>UInt8.toNat_inj.1 h,fun h=>h▸rfl⟩
 have l1:=(b[a-d]'(by omega)).toNat_lt
 have l2:=(b[a-d+1]'(by omega)).toNat_lt
 have l3:=(b[a-d+2]'(by omega)).toNat_lt
 have l4:=(b[a]'(by omega)).toNat_lt
 have l5:=(b[a+1]'(by omega)).toNat_lt
 have l6:=(b[a+2]'(by omega)).toNat_lt
 have q1:=e1 (b[a]'(by omega)) (b[a-d]'(by omega))
 have q2:=e1 (b[a+1]'(by omega)) (b[a-d+1]'(by omega))
 have q3:=e1 (b[a+1+1]'(by omega)) (b[a-d+1+1]'(by omega))
 simp only [show a+1+1=a+2 by omega,show a-d+1+1=a-d+2 by omega]at*
 constructor
 ·intro h
  rw [if_pos (q1.1 (by omega)),if_pos (q2.1 (by omega)),if_pos (q3.1 (by omega))]
  omega
 ·intro h
  split at h
  ·rename_i g1
   split at h
   ·rename_i g2
    split at h
    ·rename_i g3
     rw [g1,g2,g3]
    ·omega
   ·omega
  ·omega
def Ij (p:Nat→Bool):Nat→Option Nat
  | 0=>none
  | n+1=>if p n=true then some n else Ij p n
def Ff (p:Nat→Bool):Nat→List Nat
  | 0=>[]
  | n+1=>if p n=true then n::Ff p n else Ff p n
theorem Ox {p:Nat→Bool}:∀ {n:Nat},Ij p n=none→Ff p n=[]
 | 0,_=>rfl
 | n+1,h=>by
  rw [Ij]at h
  split at h
  ·cases h
  ·rename_i hp;rw [Ff,if_neg hp];exact Ox h
theorem Mw {p:Nat→Bool} {q:Nat}:∀ {n:Nat},Ij p n=some q→Ff p n=q::Ff p q∧q<n∧p q=true
 | 0,h=>by cases h
 | n+1,h=>by
  rw [Ij]at h
  split at h
  ·rename_i hp;cases h;rw [Ff,if_pos hp];exact ⟨rfl,by omega,hp⟩
  ·rename_i hp
   obtain ⟨h1,h2,h3⟩:=Mw h
   rw [Ff,if_neg hp];exact ⟨h1,by omega,h3⟩
theorem Mu {p:Nat→Bool}:∀ {n q:Nat},q∈Ff p n→q<n∧p q=true
 | 0,q,h=>by simp [Ff]at h
 | n+1,q,h=>by
  rw [Ff]at h
  split at h
  ·rename_i hp
   rcases List.mem_cons.1 h with rfl | h
   ·exact ⟨by omega,hp⟩
   ·have:=Mu h;exact ⟨by omega,this.2⟩
  ·have:=Mu h;exact ⟨by omega,this.2⟩
def IA (b:List UInt8) (u k:Nat):Option Nat:=Ij (fun j=>Di b j==k) u
def Ee (b:List UInt8) (i:Nat):Option Nat:=IA b i (Di b i)
theorem aP (b:List UInt8) (u k:Nat):IA b (u+1) k=if Di b u=k then some u else IA b u k:=by
 unfold IA
 rw [Ij]
 by_cases h:Di b u=k
 ·rw [if_pos h,if_pos (by simpa using h)]
 ·rw [if_neg h,if_neg (by simpa using h)]
theorem PV {b:List UInt8} {u k q:Nat} (h:IA b u k=some q):q<u∧Di b q=k:=by
 have:=Mw h
 exact ⟨this.2.1,by simpa using this.2.2⟩
def GB:Option Nat→Int
  | none=> -1
  | some q=>q
def I3 (b:List UInt8) (a:Nat):Option Nat→List Nat
  | none=>[]
  | some q=>q::Ff (fun j=>Di b j==Di b a) q
theorem gY (b:List UInt8) (a:Nat):I3 b a (Ee b a)=Ff (fun j=>Di b j==Di b a) a:=by
 cases h:Ee b a with
 | none=>exact (Ox h).symm
 | some q=>exact (Mw h).1.symm
theorem W6 {b:List UInt8} {a q:Nat} (hq:Di b q=Di b a):I3 b a (some q)=q::I3 b a (Ee b q):=by
 rw [I3]
 have:Ee b q=Ij (fun j=>Di b j==Di b a) q:=by unfold Ee IA;rw [hq]
 congr 1
 cases h:Ee b q with
 | none=>rw [this]at h;exact Ox h
 | some r=>rw [this]at h;exact (Mw h).1
def HX (b:List UInt8) (a:Nat):Nat→List Nat
  | 0=>[]
  | n+1=>if a-n≤32768 then (if 3≤DQ b a (a-n)then (a-n)::HX b a n else HX b a n)else []
def HY (b:List UInt8) (a:Nat):List Nat:=HX b a a
def G0 (a:Nat) (l:List Nat):List Nat:=(l.map (a - ·)).takeWhile (fun d=>decide (d≤32768))
theorem fh (a:Nat):∀ (l:List Nat),(∀j∈l,32768<a-j)→G0 a l=[]
 | [],_=>rfl
 | j::l,h=>by
  have:=h j zp
  unfold G0
  rw [zj,List.takeWhile_cons,if_neg (by simp only [decide_eq_true_eq];omega)]
theorem Wj {a j:Nat} {l:List Nat} (h:a-j≤32768):G0 a (j::l)=(a-j)::G0 a l:=by
 unfold G0
 rw [zj,List.takeWhile_cons,if_pos (by simpa using h)]
theorem fi {a j:Nat} {l:List Nat} (h:¬a-j≤32768):G0 a (j::l)=[]:=by
 unfold G0
 rw [zj,List.takeWhile_cons,if_neg (by simpa using h)]
theorem R3 {b:List UInt8} {a:Nat} (ha:a+3≤b.length):∀n,n≤a→HX b a n=G0 a (Ff (fun j=>Di b j==Di b a) n)
 | 0,_=>rfl
 | n+1,h=>by
  have ih:=R3 ha n (by omega)
  rw [HX,Ff]
  by_cases hd:a-n≤32768
  ·rw [if_pos hd]
   have hk:=TW ha (d:=a-n) (by omega) (by omega) hd
   rw [show a - (a-n)=n by omega]at hk
   by_cases h3:3≤DQ b a (a-n)
   ·rw [if_pos h3,if_pos (by simpa using hk.2 h3),Wj hd,ih]
   ·rw [if_neg h3,if_neg (by simpa using fun e=>h3 (hk.1 e)),ih]
  ·rw [if_neg hd]
   refine (fh a _ fun j hj=> ?_).symm
   split at hj
   ·rcases List.mem_cons.1 hj with rfl | hj
    ·omega
    ·have:=(Mu hj).1;omega
   ·have:=(Mu hj).1;omega
theorem Yc {b:List UInt8} {a:Nat} (ha:a+3≤b.length):HY b a=G0 a (I3 b a (Ee b a)):=by
 rw [gY];exact R3 ha a (Nat.le_refl _)
theorem R1 {b:List UInt8} {a:Nat} (ha:¬a+3≤b.length):∀n,HX b a n=[]
 | 0=>rfl
 | n+1=>by
  have:=NK b a (a-n)
  rw [HX,R1 ha n]
  split
  ·rename_i hd
   rw [if_neg (by omega)]
  ·rfl
theorem Oj {b:List UInt8} {a d:Nat}:∀ {n},d∈HX b a n→3≤DQ b a d
 | 0,h=>by simp [HX]at h
 | n+1,h=>by
  rw [HX]at h
  split at h
  ·split at h
   ·rcases List.mem_cons.1 h with rfl | h
    ·assumption
    ·exact Oj h
   ·exact Oj h
  ·simp at h
def FS (f:Nat→Nat):Nat→List Nat→Nat×Nat→Nat×Nat
  | 0,_,s=>s
  | _+1,[],s=>s
  | k+1,d::ds,s=>FS f k ds (if s.1<f d then (f d,d)else s)
theorem dC (f:Nat→Nat) (k:Nat) (s:Nat×Nat):FS f k [] s=s:=by cases k <;> rfl
theorem QI {f:Nat→Nat} {M:Nat} (hf:∀d,f d≤M):∀ (k:Nat) (l:List Nat) (s:Nat×Nat),s.1=M→FS f k l s=s
 | 0,_,_,_=>rfl
 | _+1,[],_,_=>rfl
 | k+1,d::ds,s,h=>by
  have:=hf d
  rw [FS,if_neg (by omega)]
  exact QI hf k ds s h
def D9 (b:List UInt8) (a depth:Nat):Nat×Nat:=FS (DQ b a) depth (HY b a) (0,0)
theorem VK {f:Nat→Nat} {G:Nat×Nat→Prop}:∀ (k:Nat) (l:List Nat) (s:Nat×Nat),(∀d∈l,G (f d,d))→G s→G (FS f k l s)
 | 0,_,_,_,h=>h
 | _+1,[],_,_,h=>h
 | k+1,d::ds,s,hG,h=>by
  rw [FS]
  refine VK k ds _ (fun x hx=>hG x (zq _ hx)) ?_
  split
  ·exact hG d zp
  ·exact h
theorem YC (b:List UInt8) (a depth:Nat):D9 b a depth=(0,0)∨(3≤(D9 b a depth).1∧(D9 b a depth).1=DQ b a (D9 b a depth).2):=
 VK (G:=fun s=>s=(0,0)∨(3≤s.1∧s.1=DQ b a s.2)) depth _ _ (fun d hd=> .inr ⟨Oj hd,rfl⟩) (.inl rfl)
end Go.Bn
end

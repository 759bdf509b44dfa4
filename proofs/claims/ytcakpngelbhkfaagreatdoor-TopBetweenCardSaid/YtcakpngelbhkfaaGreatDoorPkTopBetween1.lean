/- Packed texts of a claim: what its theorem uses, joined. -/
import Derived.Orders
import Derived.OrdersIn
import Derived.RangeFuncLeaves
import Derived.RangeFuncRecord
import Derived.KernelRfl
import Derived.Tactics
import Derived.Below
import Derived.WalkKit
set_option maxRecDepth 100000
set_option maxHeartbeats 4000000
set_option linter.unusedVariables false
set_option linter.unusedSimpArgs false
set_option linter.unusedSectionVars false
set_option linter.defProp false
section
namespace Go.Bn
open Go
abbrev AA:=Array Obj
abbrev Au:=List (Nat×Value)
def Au.get:Au→Nat→Option Value
  | [],_=>none
  | (i,v)::r,j=>match Nat.beq i j with | true=>some v | false=>Au.get r j
def Au.putD:Au→Option Nat→Value→Au
  | E,some d,v=>(d,v)::E
  | E,none,_=>E
def ev (E:Au):Operand→Option Value
  | .tmp t=>E.get t
  | .const v=>some v
  | .global g=>some (.pointer (some ⟨g,0,none⟩))
  | .func f=>some (.func (.func f) #[] #[])
def HG (E : Au) : List Operand → Option (List Value)
  | [] => some []
  | x :: r => match ev E x with
    | some v => match HG E r with
      | some vs => some (v :: vs)
      | none => none
    | none => none
def fits (n:Nat):Option Nat→Bool
  | some d=>Nat.blt d n
  | none=>true
structure OK (n:Nat) (E:Au) (a:Act):Prop where
  size:a.tmps.size=n
  get:∀i v,E.get i=some v→a.tmps[i]? =some v
theorem OK.eval {n:Nat} {E:Au} {a:Act} (h:OK n E a) {x:Operand} {v:Value} (hx:ev E x=some v):a.eval x=v:=by
 cases x with
 | tmp t=>simp [Act.eval,h.get t v hx]
 | const u=>simpa [ev,Act.eval]using hx
 | global g=>simpa [ev,Act.eval]using hx
 | func g=>simpa [ev,Act.eval]using hx
theorem OK.evals {n:Nat} {E:Au} {a:Act} (h:OK n E a):∀ {l:List Operand} {vs:List Value},HG E l=some vs→l.map a.eval=vs
 | [],vs,hx=>by simpa [HG]using hx
 | x::r,vs,hx=>by
  simp only [HG]at hx
  split at hx
  ·rename_i v hv
   split at hx
   ·rename_i us hu
    cases hx
    rw [List.map_cons,h.eval hv,h.evals hu]
   ·cases hx
  ·cases hx
theorem Au.get_cons (i:Nat) (v:Value) (E:Au) (j:Nat):Au.get ((i,v)::E) j=if i=j then some v else Au.get E j:=by
 simp only [Au.get]
 cases h:Nat.beq i j with
 | true=>simp [Nat.eq_of_beq_eq_true h]
 | false=>simp [Nat.ne_of_beq_eq_false h]
theorem OK.put {n:Nat} {E:Au} {a:Act} (h:OK n E a) {d:Option Nat} (v:Value) (hd:fits n d=true):OK n (E.putD d v) (a.put d v):=by
 cases d with
 | none=>exact h
 | some d=>
  have hd':d<a.tmps.size:=by rw [h.size];simpa [fits,Nat.blt_eq]using hd
  refine ⟨by simp [Act.put,h.size],fun i u hu=> ?_⟩
  simp only [Au.putD,Au.get_cons]at hu
  by_cases hi:d=i
  ·subst hi
   simp at hu
   subst hu
   simp [Act.put,hd']
  ·rw [if_neg hi]at hu
   simp [Act.put,Array.getElem?_setIfInBounds_ne hi,h.get i u hu]
def Dc (E' E:Au):Prop:=∀i v,E'.get i=some v→E.get i=some v
theorem Dc.nil (E:Au):Dc [] E:=fun i v h=>by simp [Au.get]at h
theorem Dc.cons {E E':Au} {i:Nat} {v:Value} (h:E.get i=some v) (hs:Dc E' E):Dc ((i,v)::E') E:=fun j u hu=>by
 rw [Au.get_cons]at hu
 by_cases hij:i=j
 ·subst hij;simp at hu;subst hu;exact h
 ·rw [if_neg hij]at hu;exact hs j u hu
theorem Dc.refl (E:Au):Dc E E:=fun _ _ h=>h
theorem OK.sub {n:Nat} {E E':Au} {a:Act} (h:OK n E a) (hs:Dc E' E):OK n E' a:=⟨h.size,fun i v hv=>h.get i v (hs i v hv)⟩
structure B8 (w w':World):Prop where
  os:w'.os=w.os
  tape:w'.tape=w.tape
  output:w'.output=w.output
theorem B8.refl (w:World):B8 w w:=⟨rfl,rfl,rfl⟩
theorem B8.trans {a b c:World} (h:B8 a b) (k:B8 b c):B8 a c:=⟨k.os.trans h.os,k.tape.trans h.tape,k.output.trans h.output⟩
structure BC (B:Nat) (h h':AA):Prop where
  size:h.size≤h'.size
  blk:∀k,k<B→h'[k]? =h[k]?
theorem BC.refl (B:Nat) (h:AA):BC B h h:=⟨Nat.le_refl _,fun _ _=>rfl⟩
theorem BC.trans {B:Nat} {a b c:AA} (h:BC B a b) (k:BC B b c):BC B a c:=
 ⟨Nat.le_trans h.size k.size,fun i hi=>(k.blk i hi).trans (h.blk i hi)⟩
theorem BC.mono {B B':Nat} {a b:AA} (h:BC B a b) (hB:B'≤B):BC B' a b:=⟨h.size,fun k hk=>h.blk k (Nat.lt_of_lt_of_le hk hB)⟩
abbrev AV (h h':AA):Prop:=BC h.size h h'
theorem AV.refl (h:AA):AV h h:=BC.refl _ _
theorem AV.trans {a b c:AA} (h:AV a b) (k:AV b c):AV a c:=BC.trans h (k.mono h.size)
theorem BC.then_ext {B:Nat} {a b c:AA} (h:BC B a b) (hB:B≤a.size) (k:AV b c):BC B a c:=h.trans (k.mono (Nat.le_trans hB h.size))
theorem BC.below {w w':World} {B:Nat} (hi:B8 w w') (h:BC B w.heap w'.heap):RowKit.Below B w w':=⟨hi.os,hi.tape,hi.output,h.size,h.blk⟩
def AG (P:Program) (f:FuncId) (args:List Value) (hp:AA) (Φ:Value→AA→Prop):Prop:=
  ∀w:World,w.heap=hp→Calls P f args.toArray w (fun e w'=>∃v,e= .returned v∧B8 w w'∧Φ v w'.heap)
theorem AG.mono {P:Program} {f:FuncId} {args:List Value} {hp:AA} {Φ Ψ:Value→AA→Prop} (h:AG P f args hp Φ) (hi:∀v hp',Φ v hp'→Ψ v hp'):AG P f args hp Ψ:=
 fun w hw=>(h w hw).mono fun _ _ ⟨v,he,hI,hf⟩=>⟨v,he,hI,hi _ _ hf⟩
inductive DW where
  | code (c:Code)
  | blk (id:Nat)
  | inv (J:Act→World→Prop)
theorem put_defers (a:Act) (d:Option Nat) (v:Value):(a.put d v).defers=a.defers:=by cases d <;> rfl
def Dw (r:Option Nat):Fence:={Fence.wide with round:=r}
theorem gc:Dw none=Fence.wide:=rfl
structure Cx where
  P:Program
  fn:Func
  Φ:Value→AA→Prop
  w0:World
  r:Option Nat
  D:List Deferred
  B:Exit→Act→World→Prop
  /-- GI a region draw its order? -/
  pd:Bool:=true
def Cx.R (c:Cx) (e:Ending) (w':World):Prop:=∃v,e= .returned v∧B8 c.w0 w'∧c.Φ v w'.heap
@[reducible] def Cx.of (P:Program) (fn:Func) (Φ:Value→AA→Prop) (w0:World):Cx:=
  ⟨P,fn,Φ,w0,none,[],bodyPostM Fence.wide 0 P fn fun e w'=>∃v,e= .returned v∧B8 w0 w'∧Φ v w'.heap,true⟩
def SQ (c : Cx) : List DW → Exit → Act → World → Prop
  | [], e, a, w => c.B e a w
  | .code x :: k, e, a, w => match e with
    | .normal => x.wpIn (Dw c.r) 0 c.P (SQ c k) a w
    | e => SQ c k e a w
  | .blk id :: k, e, a, w => match e with
    | .normal => SQ c k .normal a w
    | .exit j => if j = id then SQ c k .normal a w else SQ c k (.exit j) a w
    | e => SQ c k e a w
  | .inv J :: k, e, a, w => match e with
    | .normal => J a w
    | e => SQ c k e a w
def X (c:Cx) (k:List DW) (E:Au) (hp:AA):Prop:=
  ∀a w,(OK c.fn.ntmps E a∧a.defers=c.D)→B8 c.w0 w→w.heap=hp→SQ c k .normal a w
section
variable {c:Cx} {k:List DW} {E:Au} {hp:AA}
theorem Dd {x y:Code} (h:X c (.code x:: .code y::k) E hp):X c (.code (.seq x y)::k) E hp:=by
 intro a w ho hi hw
 have:=h a w ho hi hw
 show (Code.seq x y).wpIn (Dw c.r) 0 c.P (SQ c k) a w
 refine wpIn_seq (wpIn_mono this ?_)
 intro e a w he
 cases e <;> exact he
theorem I8 (h:X c k E hp):X c (.code .skip::k) E hp:=fun a w ho hi hw=>wpIn_skip (h a w ho hi hw)
theorem Kx {l:Nat} (h:X c k E hp):X c (.code (.label l)::k) E hp:=fun a w ho hi hw=>wpIn_label (h a w ho hi hw)
theorem HU {id:Nat} {x:Code} (h:X c (.code x:: .blk id::k) E hp):X c (.code (.block id x)::k) E hp:=by
 intro a w ho hi hw
 have:=h a w ho hi hw
 show (Code.block id x).wpIn (Dw c.r) 0 c.P (SQ c k) a w
 refine wpIn_block (wpIn_mono this ?_)
 intro e a w he
 cases e <;> exact he
theorem Hw {id:Nat} (h:X c k E hp):X c (.blk id::k) E hp:=fun a w ho hi hw=>h a w ho hi hw
def Ha (id:Nat):List DW→Option (List DW)
  | []=>none
  | .code _::k=>Ha id k
  | .inv _::k=>Ha id k
  | .blk j::k=>match Nat.beq id j with | true=>some k | false=>Ha id k
theorem MX {id:Nat}:∀ {k k':List DW},Ha id k=some k'→∀a w,SQ c k' .normal a w→SQ c k (.exit id) a w
 | [],k',h=>by simp [Ha]at h
 | .code _::k,k',h=>fun a w hq=>MX (k:=k) h a w hq
 | .inv _::k,k',h=>fun a w hq=>MX (k:=k) h a w hq
 | .blk j::k,k',h=>fun a w hq=>by
  simp only [Ha]at h
  show (if id=j then SQ c k .normal a w else SQ c k (.exit id) a w)
  cases hb:Nat.beq id j with
  | true=>rw [hb]at h;cases h;rw [if_pos (Nat.eq_of_beq_eq_true hb)];exact hq
  | false=>rw [hb]at h;rw [if_neg (Nat.ne_of_beq_eq_false hb)];exact MX h a w hq
theorem Kw {id:Nat} {k':List DW} (hk:Ha id k=some k') (h:X c k' E hp):X c (.code (.exit id)::k) E hp:=
 fun a w ho hi hw=>wpIn_exit (MX hk a w (h a w ho hi hw))
theorem C6 {x:Operand} {t e:Code} {b:Bool} (hx:ev E x=some (.bool b)) (ht:b=true→X c (.code t::k) E hp) (hf:b=false→X c (.code e::k) E hp):
  X c (.code (.cond x t e)::k) E hp:=by
 intro a w ho hi hw
 refine wpIn_cond_split (ho.1.eval hx) (fun h=> ?_) (fun h=> ?_)
 ·exact wpIn_mono (ht h a w ho hi hw) (fun e a w he=>by cases e <;> exact he)
 ·exact wpIn_mono (hf h a w ho hi hw) (fun e a w he=>by cases e <;> exact he)
def RK (c:Cx) {σ:Type} (μ:σ→Nat) (EI:σ→Au) (HI:σ→AA→Prop) (s:σ) (a:Act) (w:World):Prop:=
  ∃s',μ s'<μ s∧(OK c.fn.ntmps (EI s') a∧a.defers=c.D)∧B8 c.w0 w∧HI s' w.heap
theorem BD {σ:Type} (μ:σ→Nat) (EI:σ→Au) (HI:σ→AA→Prop) {body:Code} (s0:σ) (hE:Dc (EI s0) E) (h0:HI s0 hp)
  (round:∀s hp,HI s hp→X c (.code body:: .inv (RK c μ EI HI s)::k) (EI s) hp):X c (.code (.loop body)::k) E hp:=by
 intro a w ho hi hw
 subst hw
 let J:Nat→Act→World→Prop:=fun m a w=>∃s,μ s=m∧(OK c.fn.ntmps (EI s) a∧a.defers=c.D)∧B8 c.w0 w∧HI s w.heap
 show (Code.loop body).wpIn (Dw c.r) 0 c.P (SQ c k) a w
 have hm:∀ (a:Act) (w:World),(∃m,J m a w)→∃m,J m a w∧∀m',m'<m→¬J m' a w:=by
  intro a w ⟨m,hm⟩
  induction m using Nat.strongRecOn with
  | _ m ih=>
   by_cases h:∃m',m'<m∧J m' a w
   ·obtain ⟨m',hlt,hj⟩:=h;exact ih m' hlt hj
   ·exact ⟨m,hm,fun m' hlt hj=>h ⟨m',hlt,hj⟩⟩
 refine wpIn_loop (fun a w=>∃m,J m a w) (fun a w=>Classical.epsilon fun m=>J m a w∧∀m',m'<m→¬J m' a w) ⟨μ s0,s0,rfl,⟨ho.1.sub hE,ho.2⟩,hi,h0⟩ ?_
 intro a w hJ
 have hs:=Classical.epsilon_spec (hm a w hJ)
 generalize hg:(Classical.epsilon fun m=>J m a w∧∀m',m'<m→¬J m' a w)=g at hs
 obtain ⟨⟨s,hμ,hok,hinv,hh⟩,_⟩:=hs
 have hr:=round s w.heap hh a w hok hinv rfl
 refine wpIn_mono hr ?_
 intro e a' w' he
 cases e with
 | normal=>
  obtain ⟨s',hlt,hok',hinv',hh'⟩:=he
  have hJ':∃m,J m a' w':=⟨μ s',s',rfl,hok',hinv',hh'⟩
  refine ⟨hJ',?_⟩
  have hs':=Classical.epsilon_spec (hm a' w' hJ')
  show (Classical.epsilon fun m=>J m a' w'∧∀m',m'<m→¬J m' a' w')<_
  have hle:¬ (μ s'<Classical.epsilon fun m=>J m a' w'∧∀m',m'<m→¬J m' a' w'):=fun hlt'=>hs'.2 _ hlt' ⟨s',rfl,hok',hinv',hh'⟩
  omega
 | exit id=>exact he
 | goto l=>exact he
 | ret=>exact he
 | panic ch=>exact he
 | outgrown=>exact he
theorem Ad {σ:Type} {μ:σ→Nat} {EI:σ→Au} {HI:σ→AA→Prop} {s:σ} (s':σ) (hE:Dc (EI s') E) (h:HI s' hp) (hlt:μ s'<μ s):
  X c (.inv (RK c μ EI HI s)::k) E hp:=fun _ _ ho hi hw=>⟨s',hlt,⟨ho.1.sub hE,ho.2⟩,hi,by rw [hw];exact h⟩
inductive RV (P:Program) (hp:AA) (E:Au):ResultVar→Value→Prop
  | tmp {t:Tmp} {v:Value} (h:E.get t=some v):RV P hp E (.tmp t) v
  | cell {a:Tmp} {t:TypeId} {ad:Addr} {v:Value} (h:E.get a=some (.pointer (some ad))) (hl:∀w:World,w.heap=hp→(loadVar t ad).run P w= .ok v w):RV P hp E (.cell a t) v
inductive FZ (P:Program) (hp:AA) (E:Au):List ResultVar→List Value→Prop
  | nil:FZ P hp E [] []
  | cons {r:ResultVar} {v:Value} {rs:List ResultVar} {vs:List Value} (h:RV P hp E r v) (t:FZ P hp E rs vs):FZ P hp E (r::rs) (v::vs)
def Jo (tmps:Array Value):ResultVar→Sem Value
  | .tmp t=>pure (tmps.getD t undef)
  | .cell a t=>do loadVar t (←asAddr (tmps.getD a undef))
theorem RV.run {P:Program} {n:Nat} {a:Act} {w:World} {r:ResultVar} {v:Value} (h:RV P hp E r v) (ho:OK n E a) (hw:w.heap=hp):(Jo a.tmps r).run P w= .ok v w:=by
 cases h with
 | tmp h=>simp [Jo,ho.get _ _ h]
 | cell h hl=>simp [Jo,ho.get _ _ h,asAddr,hl w hw]
theorem FZ.run {P:Program} {n:Nat} {a:Act} {w:World} (ho:OK n E a) (hw:w.heap=hp):∀ {rs:List ResultVar} {vs:List Value},FZ P hp E rs vs→
  (List.mapM (m:=Sem) (Jo a.tmps) rs).run P w= .ok vs w
 | _,_,.nil=>by simp [List.mapM_nil,go_sem]
 | _,_,.cons (rs:=rs) (vs:=vs) h t=>by
  have ih:=FZ.run ho hw t
  have h1:=h.run ho hw
  simp only [List.mapM_cons,Sem.run_bind,h1,Result.andThen_ok,ih,Sem.run_pure]
def Al:List Value→Value
  | [v]=>v
  | vs=> .tuple vs.toArray
theorem QS {P:Program} {fn:Func} {n:Nat} {a:Act} {w:World} {vs:List Value} (ho:OK n E a) (hw:w.heap=hp) (h:FZ P hp E fn.results.toList vs):
  (results fn a.tmps).run P w= .ok (Al vs) w:=by
 have hm:fn.results.mapM (m:=Sem) (Jo a.tmps)=List.toArray <$> List.mapM (m:=Sem) (Jo a.tmps) fn.results.toList:=Array.mapM_eq_mapM_toList
 have he:(results fn a.tmps)=(do let vs←fn.results.mapM (m:=Sem) (Jo a.tmps);pure (if h:vs.size=1 then vs[0]else .tuple vs)):=rfl
 rw [he,hm]
 simp only [Sem.run_bind,map_eq_pure_bind,FZ.run ho hw h,Result.andThen_ok,Sem.run_pure]
 congr 1
 match vs with
 | []=>rfl
 | [v]=>rfl
 | _::_::_=>rfl
theorem VQ {c:Cx} {E:Au} {hp:AA} {vs:List Value} {a:Act} {w:World} {D:List Deferred} (hD:D=[]) (h:FZ c.P hp E c.fn.results.toList vs) (hΦ:c.Φ (Al vs) hp) (ho:OK c.fn.ntmps E a) (hi:B8 c.w0 w) (hw:w.heap=hp):
  LeavesInM Fence.wide 0 c.P c.fn a.tmps c.R D .returning w:=by
 subst hD
 exact ⟨Al vs,QS ho hw h,Al vs,rfl,hi,by rw [hw];exact hΦ⟩
def Es (hp:AA) (d:Nat):AA:=hp.setIfInBounds d (.deferred none)
theorem dO {c:Cx} {E:Au} {hp:AA} {vs:List Value} {a:Act} {w:World} {D:List Deferred} {d:Nat} (hD:D=[{target:= .collected d,args:= #[]}]) (hd:hp[d]? =some (.deferred (some []))) (h:FZ c.P (Es hp d) E c.fn.results.toList vs) (hΦ:c.Φ (Al vs) (Es hp d)) (ho:OK c.fn.ntmps E a) (hi:B8 c.w0 w) (hw:w.heap=hp):
  LeavesInM Fence.wide 0 c.P c.fn a.tmps c.R D .returning w:=by
 subst hD
 have ht:(Instr.takeDeferred d).run c.P w= .ok [] (w.putObj d (.deferred none)):=run_takeDeferred (by rw [hw];exact hd)
 refine ⟨by simp,.inl ⟨d,w.putObj d (.deferred none),rfl,ht,?_⟩⟩
 have hh:(w.putObj d (.deferred none)).heap=Es hp d:=by rw [←hw];rfl
 exact ⟨Al vs,QS ho hh h,Al vs,rfl,⟨hi.os,hi.tape,hi.output⟩,by rw [hh];exact hΦ⟩
theorem Kv {vs:List Value} (h:FZ c.P hp E c.fn.results.toList vs) (hΦ:c.Φ (Al vs) hp) (hB:c.B=bodyPostM Fence.wide 0 c.P c.fn c.R:=by rfl) (hD:c.D=[]:=by rfl):X c [] E hp:=fun a w ho hi hw=>by
 show c.B .normal a w
 rw [hB]
 exact VQ (ho.2.trans hD) h hΦ ho.1 hi hw
theorem J6 {a:Act} {w:World} (h:c.B .ret a w):∀k,SQ c k .ret a w
 | []=>h
 | .code _::k=>J6 h k
 | .blk _::k=>J6 h k
 | .inv _::k=>J6 h k
theorem Af {vs:List Value} (h:FZ c.P hp E c.fn.results.toList vs) (hΦ:c.Φ (Al vs) hp) (hB:c.B=bodyPostM Fence.wide 0 c.P c.fn c.R:=by rfl) (hD:c.D=[]:=by rfl):X c (.code .ret::k) E hp:=fun a w ho hi hw=>by
 refine wpIn_ret (J6 ?_ k)
 rw [hB]
 exact VQ (ho.2.trans hD) h hΦ ho.1 hi hw
theorem Gg {vs:List Value} {d:Nat} (h:FZ c.P (Es hp d) E c.fn.results.toList vs) (hΦ:c.Φ (Al vs) (Es hp d)) (hd:hp[d]? =some (.deferred (some []))) (hB:c.B=bodyPostM Fence.wide 0 c.P c.fn c.R:=by rfl) (hD:c.D=[{target:= .collected d,args:= #[]}]:=by rfl):X c (.code .ret::k) E hp:=fun a w ho hi hw=>by
 refine wpIn_ret (J6 ?_ k)
 rw [hB]
 exact dO (ho.2.trans hD) hd h hΦ ho.1 hi hw
end
def K2:Nat→List Value→Au
  | _,[]=>[]
  | i,v::r=>(i,v)::K2 (i+1) r
theorem Ri:∀ (i:Nat) (l:List Value) (j:Nat) (v:Value),(K2 i l).get j=some v→i≤j∧l[j-i]? =some v
 | _,[],_,_,h=>by simp [K2,Au.get]at h
 | i,u::r,j,v,h=>by
  simp only [K2,Au.get_cons]at h
  by_cases hij:i=j
  ·subst hij;simp at h;subst h;simp
  ·rw [if_neg hij]at h
   obtain ⟨h1,h2⟩:=Ri (i+1) r j v h
   refine ⟨by omega,?_⟩
   rw [show j-i=(j - (i+1))+1 by omega,List.getElem?_cons_succ]
   exact h2
theorem It {P:Program} {f:FuncId} {fn:Func} {code:Code} {args:List Value} {hp:AA} {Φ:Value→AA→Prop} (hf:P.funcs[f]? =some fn) (hb:fn.body=some code)
  (hn:Nat.ble args.length fn.ntmps=true) (h:∀w0:World,w0.heap=hp→X (Cx.of P fn Φ w0) [.code code] (K2 0 args) hp):AG P f args hp Φ:=by
 intro w hw
 refine callsIn_wide (n:=0).1 (callsIn_of_wp_marks hf hb trivial ?_)
 have hn':args.length≤fn.ntmps:=Nat.le_of_ble_eq_true hn
 have hx:=h w hw {tmps:=args.toArray++Array.replicate (fn.ntmps-args.toArray.size) undef,defers:=[]} w ⟨⟨by simp;omega,fun i v hv=> ?_⟩,rfl⟩ (B8.refl w) hw
 ·exact wpIn_mono hx (fun e a w he=>by cases e <;> exact he)
 ·obtain ⟨_,h2⟩:=Ri 0 args i v hv
  have hlt:i<args.length:=(List.getElem?_eq_some_iff.1 (by simpa using h2)).1
  rw [Array.getElem?_append_left (by simpa using hlt)]
  simpa using h2
inductive Ca where
  | pure | load | grow | wild
  deriving DecidableEq
def J4:Exit→Act→World→Prop:=fun _ _ _=>False
def I1 (P:Program) (S:Exit→Act→World→Prop) (o:Oper) (a:Act) (K:Act→World→Prop):Result Next→Prop
  | .ok (.round l f tmps assign body) w'=>RoundIn Fence.wide 0 P l f tmps assign body w' fun e w''=>∃u,e= .returned u∧K (a.put o.dst u) w''
  | r=>o.upon P a K S r
def wq (P:Program) (S:Exit→Act→World→Prop) (o:Oper) (a:Act) (w:World) (K:Act→World→Prop):Prop:=I1 P S o a K ((execOp a.eval o).run P w)
theorem W9 {P:Program} {S:Exit→Act→World→Prop} {o:Oper} {a:Act} {w:World} {K:Act→World→Prop} (h:o.wp P a w K J4):o.wp P a w K S:=by
 unfold Oper.wp at*
 generalize (execOp a.eval o).run P w=r at*
 cases r with
 | ok n w'=>
  cases n <;> simp only [Oper.upon]at h ⊢ <;> first
   | exact h
   | exact Calls.mono h (fun e w'' he=>by cases e <;> first | exact he | exact he.elim | (obtain ⟨_,_,hq⟩:=he;exact hq.elim))
 | halt x w'=>cases x <;> simp only [Oper.upon]at h ⊢ <;> exact h.elim
theorem XC {P:Program} {S:Exit→Act→World→Prop} {o:Oper} {a:Act} {w:World} {K:Act→World→Prop} (h:o.wp P a w K S):wq P S o a w K:=by
 unfold wq
 unfold Oper.wp at h
 generalize (execOp a.eval o).run P w=r at*
 cases r with
 | ok n w'=>cases n <;> first | exact h | exact h.elim
 | halt x w'=>exact h
theorem OM {P:Program} {S:Exit→Act→World→Prop} {o:Oper} {a:Act} {w:World} {K:Act→World→Prop} (h:o.wp P a w K J4):wq P S o a w K:=XC (W9 h)
theorem gp {S:Exit→Act→World→Prop} {P:Program} {o:Oper} {a:Act} {w:World} {K K':Act→World→Prop} (hm:∀a w,K a w→K' a w) (h:wq P S o a w K):wq P S o a w K':=by
 unfold wq at*
 generalize (execOp a.eval o).run P w=r at*
 cases r with
 | ok n w'=>
  cases n <;> simp only [I1,Oper.upon]at h ⊢ <;> first
   | exact hm _ _ h
   | exact h
   | exact Calls.mono h (fun e w'' he=>by cases e <;> first | exact hm _ _ he | exact he)
   | exact Rows.mono h (fun u w'' he=>hm _ _ he)
   | exact RoundIn.mono h (fun e w'' ⟨u,hu,hk⟩=>⟨u,hu,hm _ _ hk⟩)
 | halt x w'=>cases x <;> simp only [I1,Oper.upon]at h ⊢ <;> exact h
def LZ (o:Oper):Bool:=match o.op with
  | .defer _=>false
  | _=>true
theorem d5 {r:Option Nat} {P:Program} {row:String} {args:Array Value} {w:World} {R:Value→World→Prop} (h:Rows P row args w R):RowsIn (Dw r) 0 P row args w R:=by
 intro c cs _
 obtain ⟨v,w',hR,hs⟩:=h c cs
 exact ⟨v,w',hR,stepsIn_wide.2 hs⟩
theorem gn {r:Option Nat} {P:Program} {o:Oper} {a:Act} {w:World} {K:Act→World→Prop} {Q S:Exit→Act→World→Prop} (hS:∀e a w,S e a w→Q e a w) (hD:r=none∨LZ o=true) (h:wq P S o a w K):o.wpIn (Dw r) 0 P a w K Q:=by
 refine ⟨fun _ _=>trivial,?_⟩
 have hs:o.semAt (Dw r).round a.eval=execOp a.eval o:=by
  rcases hD with rfl | hn
  ·rfl
  ·refine Oper.semAt_eq _ _ _ (fun c hc=> ?_)
   unfold LZ at hn;rw [hc]at hn;cases hn
 rw [hs]
 unfold wq at h
 generalize (execOp a.eval o).run P w=res at*
 have hdep:(Dw r).depth.isSome=true→1≤0:=fun hh=>by cases hh
 cases res with
 | ok n w'=>
  cases n <;> simp only [I1,Oper.upon,Oper.uponIn]at h ⊢ <;> first
   | exact h
   | exact h.elim
   | exact ⟨hdep,(callsIn_wide (n:=0-1)).2 (Calls.mono h (fun e w'' he=>by cases e <;> first | exact he | exact hS _ _ _ he | (obtain ⟨a0,w0,hq⟩:=he;exact ⟨a0,w0,hS _ _ _ hq⟩)))⟩
   | exact ⟨hdep,d5 h⟩
   | exact ⟨hdep,RoundIn.mono h (fun e w'' ⟨u,hu,hk⟩=>by subst hu;exact hk)⟩
 | halt x w'=>cases x <;> simp only [I1,Oper.upon,Oper.uponIn]at h ⊢ <;> first | exact h.elim | exact hS _ _ _ h
abbrev CF:=Nat→Oper→Ca
def HN (c:Ca) (P:Program) (S:Exit→Act→World→Prop) (o:Oper) (a:Act) (w:World) (K:Act→World→Prop):Prop:=
  match c with
  | .pure=>∃v,(∀w',(execOp a.eval o).run P w'= .ok (.value v) w')∧K (a.put o.dst v) w
  | .load=>∃v,(∀w':World,AV w.heap w'.heap→(execOp a.eval o).run P w'= .ok (.value v) w')∧K (a.put o.dst v) w
  | .grow=>o.wp P a w (fun a' w'=>AV w.heap w'.heap∧K a' w') S
  | .wild=>wq P S o a w K
def stepI (cs:CF) (P:Program) (S:Exit→Act→World→Prop) (ops:Array Oper) (i:Nat) (a:Act) (w:World) (K:Act→World→Prop):Prop:=
  ∃o,ops[i]? =some o∧if Region.wanted o (yielded ops a.tmps)=true then HN (cs i o) P S o a w K else K (a.put o.dst undef) w
theorem HN.wq {S:Exit→Act→World→Prop} {c:Ca} {P:Program} {o:Oper} {a:Act} {w:World} {K:Act→World→Prop} (h:HN c P S o a w K):wq P S o a w K:=by
 cases c with
 | pure=>obtain ⟨v,hv,hk⟩:=h;refine OM ?_;simp only [Oper.wp,hv w,Oper.upon];exact hk
 | load=>obtain ⟨v,hv,hk⟩:=h;refine OM ?_;simp only [Oper.wp,hv w (AV.refl _),Oper.upon];exact hk
 | grow=>exact XC (Oper.wp_mono (fun _ _ hk=>hk.2) h)
 | wild=>exact h
theorem HN.mono {S:Exit→Act→World→Prop} {c:Ca} {P:Program} {o:Oper} {a:Act} {w:World} {K K':Act→World→Prop} (hm:∀a w,K a w→K' a w) (h:HN c P S o a w K):HN c P S o a w K':=by
 cases c with
 | pure=>obtain ⟨v,hv,hk⟩:=h;exact ⟨v,hv,hm _ _ hk⟩
 | load=>obtain ⟨v,hv,hk⟩:=h;exact ⟨v,hv,hm _ _ hk⟩
 | grow=>exact Oper.wp_mono (fun _ _ hk=>⟨hk.1,hm _ _ hk.2⟩) h
 | wild=>exact gp hm h
theorem stepI.mono {S:Exit→Act→World→Prop} {cs:CF} {P:Program} {ops:Array Oper} {i:Nat} {a:Act} {w:World} {K K':Act→World→Prop} (hm:∀a w,K a w→K' a w) (h:stepI cs P S ops i a w K):stepI cs P S ops i a w K':=by
 obtain ⟨o,ho,h⟩:=h
 refine ⟨o,ho,?_⟩
 split
 ·rename_i hw;rw [if_pos hw]at h;exact h.mono hm
 ·rename_i hw;rw [if_neg hw]at h;exact hm _ _ h
def Hm (ops:Array Oper):Bool:=ops.all LZ
def Jb:List Oper→Bool
  | []=>true
  | o::r=>LZ o&&Jb r
theorem LY:∀ {l:List Oper},Jb l=true→Hm l.toArray=true
 | [],_=>by simp [Hm]
 | o::r,h=>by
  simp only [Jb,Bool.and_eq_true]at h
  have:=LY h.2
  simp only [Hm,List.all_toArray,List.all_cons,Bool.and_eq_true]at this ⊢
  exact ⟨h.1,this⟩
theorem bg {ops:Array Oper} (h:Hm ops=true) {i:Nat} {o:Oper} (hi:ops[i]? =some o):LZ o=true:=by
 obtain ⟨hl,rfl⟩:=Array.getElem?_eq_some_iff.1 hi
 exact (Array.all_eq_true.1 h) i hl
theorem stepI.wpOp {r:Option Nat} {cs:CF} {P:Program} {ops:Array Oper} {Q S:Exit→Act→World→Prop} {i:Nat} {a:Act} {w:World} {K:Act→World→Prop} (hS:∀e a w,S e a w→Q e a w) (hD:r=none∨Hm ops=true) (h:stepI cs P S ops i a w K):wpOpIn (Dw r) 0 P ops Q i K a w:=by
 obtain ⟨o,ho,h⟩:=h
 unfold Go.wpOpIn
 simp only [ho]
 split
 ·rename_i hw;rw [if_pos hw]at h;exact gn hS (hD.imp id (fun hn=>bg hn ho)) h.wq
 ·rename_i hw;rw [if_neg hw]at h;exact ⟨fun _ _=>trivial,h⟩
def GD (cs:CF) (P:Program) (S:Exit→Act→World→Prop) (ops:Array Oper) (N:Act→World→Prop):List Nat→Act→World→Prop
  | [],a,w=>N a w
  | i::rest,a,w=>stepI cs P S ops i a w (GD cs P S ops N rest)
theorem Vb {r:Option Nat} {cs:CF} {P:Program} {ops:Array Oper} {Q S:Exit→Act→World→Prop} (hS:∀e a w,S e a w→Q e a w) (hD:r=none∨Hm ops=true):∀ (l:List Nat) (a:Act) (w:World),GD cs P S ops (Q .normal) l a w→wpOpsIn (Dw r) 0 P ops Q l a w
 | [],_,_,h=>h
 | i::rest,a,w,h=>by
  rw [wpOpsIn_cons]
  exact wpOpIn_mono (fun a w=>Vb hS hD rest a w) (h.wpOp hS hD)
def Fc (cs:CF) (P:Program) (S:Exit→Act→World→Prop) (ops:Array Oper) (N:Act→World→Prop):Nat→Array Bool→Act→World→Prop
  | 0,listed,a,w=>Region.ready .any ops listed=[]∧N a w
  | f+1,listed,a,w=>(Region.ready .any ops listed=[]→N a w)∧
    ∀i∈Region.ready .any ops listed,stepI cs P S ops i a w (Fc cs P S ops N f (listed.setIfInBounds i true))
theorem Fc.wpAny {r:Option Nat} {cs:CF} {P:Program} {ops:Array Oper} {Q S:Exit→Act→World→Prop} (hS:∀e a w,S e a w→Q e a w) (hD:r=none∨Hm ops=true):∀ (f:Nat) (listed:Array Bool) (a:Act) (w:World),Fc cs P S ops (Q .normal) f listed a w→wpAnyIn (Dw r) 0 P .any ops Q f listed a w
 | 0,_,_,_,h=>h
 | f+1,_,_,_,h=>⟨h.1,fun i hi=>wpOpIn_mono (fun a w=>Fc.wpAny hS hD f _ a w) ((h.2 i hi).wpOp hS hD)⟩
def FI (c:Ca) (P:Program) (ops:Array Oper) (o:Oper) (v:Value) (a:Act) (w:World):Prop:=
  (Region.wanted o (yielded ops a.tmps)=true∧match c with
    | .pure=>∀w',(execOp a.eval o).run P w'= .ok (.value v) w'
    | .load=>∀w':World,AV w.heap w'.heap→(execOp a.eval o).run P w'= .ok (.value v) w'
    | _=>False)∨
  (Region.wanted o (yielded ops a.tmps)=false∧v=undef)
theorem FI.of_same {c:Ca} {P:Program} {ops:Array Oper} {o:Oper} {v:Value} {a a':Act} {w w':World} (h:FI c P ops o v a w) (he:execOp a'.eval o=execOp a.eval o)
  (hw:Region.wanted o (yielded ops a'.tmps)=Region.wanted o (yielded ops a.tmps)) (hx:c= .load→AV w.heap w'.heap):FI c P ops o v a' w':=by
 unfold FI at*
 rw [he,hw]
 refine h.imp (fun h=>⟨h.1,?_⟩) id
 have h2:=h.2
 cases c with
 | pure=>exact h2
 | load=>exact fun w'' hx'=>h2 w'' ((hx rfl).trans hx')
 | grow=>exact h2
 | wild=>exact h2
theorem FI.stepI {S:Exit→Act→World→Prop} {cs:CF} {P:Program} {ops:Array Oper} {i:Nat} {o:Oper} {v:Value} {a:Act} {w:World} (hi:ops[i]? =some o) (h:FI (cs i o) P ops o v a w)
  {K:Act→World→Prop} (hk:K (a.put o.dst v) w):stepI cs P S ops i a w K:=by
 refine ⟨o,hi,?_⟩
 rcases h with ⟨hw,h⟩ | ⟨hw,rfl⟩
 ·rw [if_pos hw]
  generalize cs i o=c at h ⊢
  cases c with
  | pure=>exact ⟨v,h,hk⟩
  | load=>exact ⟨v,h,hk⟩
  | grow=>exact h.elim
  | wild=>exact h.elim
 ·rw [if_neg (by rw [hw];exact Bool.false_ne_true)];exact hk
theorem TC {S:Exit→Act→World→Prop} {cs:CF} {P:Program} {ops:Array Oper} {i:Nat} {o:Oper} {a:Act} {w:World} {K:Act→World→Prop} (hi:ops[i]? =some o)
  (hc:cs i o= .pure∨cs i o= .load) (h:stepI cs P S ops i a w K):∃v,FI (cs i o) P ops o v a w∧K (a.put o.dst v) w:=by
 obtain ⟨o',ho',h⟩:=h
 obtain rfl:o'=o:=Option.some.inj (ho'.symm.trans hi)
 by_cases hw:Region.wanted o' (yielded ops a.tmps)=true
 ·rw [if_pos hw]at h
  rcases hc with hc | hc <;> rw [hc]at h ⊢ <;> obtain ⟨v,hv,hk⟩:=h <;> exact ⟨v,.inl ⟨hw,hv⟩,hk⟩
 ·rw [if_neg hw]at h
  exact ⟨undef,.inr ⟨by simpa using hw,rfl⟩,h⟩
theorem fN {S:Exit→Act→World→Prop} (hIn:∀e a d v w,S e (Act.put a d v) w→S e a w) {cs:CF} {P:Program} {ops:Array Oper} {j:Nat} {oi oj:Oper} {c:Ca} {v:Value} (hj:ops[j]? =some oj) (hap:oi.apart ops oj=true)
  (hsi:∀cs b,oi.op≠ .select cs b) (hsj:∀cs b,oj.op≠ .select cs b) (hwl:c= .load→cs j oj≠ .wild) {K:Act→World→Prop} {a:Act} {w:World}
  (hy:FI c P ops oi v a w) (h:stepI cs P S ops j (a.put oi.dst v) w K):
  stepI cs P S ops j a w (fun a' w'=>FI c P ops oi v a' w'∧K (a'.put oi.dst v) w'):=by
 obtain ⟨h1,h2,h3⟩:=Oper.apart_spec hap
 have keep:∀ (a:Act) (w w':World),FI c P ops oi v a w→(c= .load→AV w.heap w'.heap)→∀u,FI c P ops oi v (a.put oj.dst u) w':=fun a w w' hy hx u=>
  hy.of_same (execOp_put oi hsi a oj.dst u h3) (wanted_put oi a oj.dst u h3) hx
 have keepD:∀ (w w':World) (_:c= .load→AV w.heap w'.heap) (_:FI c P ops oi v a w) d,FI c P ops oi v {a with defers:=d::a.defers} w':=fun w w' hx hy d=>hy.of_same rfl rfl hx
 obtain ⟨o',ho',h⟩:=h
 obtain rfl:o'=oj:=Option.some.inj (ho'.symm.trans hj)
 refine ⟨o',hj,?_⟩
 rw [wanted_put o' a oi.dst v h1]at h
 split
 ·rename_i hw
  rw [if_pos hw]at h
  have he:=execOp_put o' hsj a oi.dst v h1
  -- an operation's run,its frame turned
  have go:∀ (K' K'':Act→World→Prop),(∀a' w',(∃ (u:Value) (a0:Act),FI c P ops oi v a0 w∧a'=a0.put o'.dst u)→K' (a'.put oi.dst v) w'→K'' a' w')→o'.wp P (a.put oi.dst v) w K' S→o'.wp P a w K'' S:=by
   intro K' K'' hk hh
   unfold Oper.wp at*
   rw [he]at hh
   generalize (execOp a.eval o').run P w=r at*
   cases r with
   | ok n w'=>
    cases n <;> simp only [Oper.upon]at hh ⊢
    case value u=>exact hk _ _ ⟨u,a,hy,rfl⟩ (by rw [←Act.put_comm a v u h2];exact hh)
    case skip=>exact hk _ _ ⟨undef,a,hy,rfl⟩ (by rw [←Act.put_comm a v undef h2];exact hh)
    case defer d=>
     refine hk _ _ ⟨undef,{a with defers:=d::a.defers},hy.of_same rfl rfl (fun _=>AV.refl _),rfl⟩ ?_
     rw [←Act.put_comm _ v undef h2,←Act.put_defers]
     exact hh
    case enter f args=>
     refine Calls.mono hh fun e w'' he=> ?_
     cases e with
     | returned u=>exact hk _ _ ⟨u,a,hy,rfl⟩ (by rw [←Act.put_comm a v u h2];exact he)
     | panicked c=>exact hIn _ _ _ _ _ he
     | outgrown=>exact he
    case row row args=>exact Rows.mono hh fun u w'' he=>hk _ _ ⟨u,a,hy,rfl⟩ (by rw [←Act.put_comm a v u h2];exact he)
   | halt x w'=>
    cases x <;> simp only [Oper.upon]at hh ⊢
    case panic u=>exact hIn _ _ _ _ _ hh
  have goq:∀ (K' K'':Act→World→Prop),(∀a' w',(∃ (u:Value) (a0:Act),FI c P ops oi v a0 w∧a'=a0.put o'.dst u)→K' (a'.put oi.dst v) w'→K'' a' w')→wq P S o' (a.put oi.dst v) w K'→wq P S o' a w K'':=by
   intro K' K'' hk hh
   unfold wq at*
   rw [he]at hh
   generalize (execOp a.eval o').run P w=r at*
   cases r with
   | ok n w'=>
    cases n <;> simp only [I1,Oper.upon]at hh ⊢
    case value u=>exact hk _ _ ⟨u,a,hy,rfl⟩ (by rw [←Act.put_comm a v u h2];exact hh)
    case skip=>exact hk _ _ ⟨undef,a,hy,rfl⟩ (by rw [←Act.put_comm a v undef h2];exact hh)
    case defer d=>
     refine hk _ _ ⟨undef,{a with defers:=d::a.defers},hy.of_same rfl rfl (fun _=>AV.refl _),rfl⟩ ?_
     rw [←Act.put_comm _ v undef h2,←Act.put_defers]
     exact hh
    case enter f args=>
     refine Calls.mono hh fun e w'' he=> ?_
     cases e with
     | returned u=>exact hk _ _ ⟨u,a,hy,rfl⟩ (by rw [←Act.put_comm a v u h2];exact he)
     | panicked c=>exact hIn _ _ _ _ _ he
     | outgrown=>exact he
    case row row args=>exact Rows.mono hh fun u w'' he=>hk _ _ ⟨u,a,hy,rfl⟩ (by rw [←Act.put_comm a v u h2];exact he)
    case round l f tmps assign body=>exact RoundIn.mono hh fun e w'' ⟨u,hu,he⟩=>⟨u,hu,hk _ _ ⟨u,a,hy,rfl⟩ (by rw [←Act.put_comm a v u h2];exact he)⟩
   | halt x w'=>
    cases x <;> simp only [I1,Oper.upon]at hh ⊢
    case panic u=>exact hIn _ _ _ _ _ hh
  generalize hcj:cs j o'=cj at*
  cases cj with
  | pure=>
   obtain ⟨u,hu,hk⟩:=h
   rw [he]at hu
   exact ⟨u,hu,keep a w w hy (fun _=>AV.refl _) u,by rw [←Act.put_comm a v u h2];exact hk⟩
  | load=>
   obtain ⟨u,hu,hk⟩:=h
   rw [he]at hu
   exact ⟨u,hu,keep a w w hy (fun _=>AV.refl _) u,by rw [←Act.put_comm a v u h2];exact hk⟩
  | grow=>
   refine go _ _ ?_ h
   rintro a' w' ⟨u,a0,hy0,rfl⟩ ⟨hx,hk⟩
   exact ⟨hx,keep a0 w w' hy0 (fun _=>hx) u,hk⟩
  | wild=>
   refine goq _ _ ?_ h
   rintro a' w' ⟨u,a0,hy0,rfl⟩ hk
   exact ⟨keep a0 w w' hy0 (fun hl=>absurd rfl (hwl hl)) u,hk⟩
 ·rename_i hw
  rw [if_neg hw]at h
  exact ⟨keep a w w hy (fun _=>AV.refl _) undef,by rw [←Act.put_comm a v undef h2];exact h⟩
theorem Rf {S:Exit→Act→World→Prop} (hIn:∀e a d v w,S e (Act.put a d v) w→S e a w) {cs:CF} {P:Program} {ops:Array Oper} {N:Act→World→Prop} {i:Nat} {oi:Oper} {v:Value} (hi:ops[i]? =some oi)
  (hsel:∀ (j:Nat) (o:Oper) cs b,ops[j]? =some o→o.op≠ .select cs b) (I:Array Bool→Prop)
  (hI:∀listed j,I listed→j∈Region.ready .any ops listed→j≠i→listed.getD i true=false→I (listed.setIfInBounds j true))
  (hfree:∀listed j oj,I listed→ops[j]? =some oj→j∈Region.ready .any ops listed→j≠i→listed.getD i true=false→
   oi.apart ops oj=true∧(cs i oi= .load→cs j oj≠ .wild)):
  ∀ (fuel:Nat) (listed:Array Bool) (a:Act) (w:World),I listed→i∈Region.ready .any ops listed→FI (cs i oi) P ops oi v a w→
   Fc cs P S ops N fuel (listed.setIfInBounds i true) (a.put oi.dst v) w→Fc cs P S ops N (fuel+1) listed a w:=by
 intro fuel
 induction fuel with
 | zero=>
  intro listed a w _ hr hy H
  refine ⟨fun h=>(by rw [h]at hr;cases hr),fun j hj=> ?_⟩
  by_cases hji:j=i
  ·subst hji;exact hy.stepI hi H
  ·have:=ready_mono hj hji
   rw [H.1]at this
   cases this
 | succ fuel ih=>
  intro listed a w inv hr hy H
  refine ⟨fun h=>(by rw [h]at hr;cases hr),fun j hj=> ?_⟩
  by_cases hji:j=i
  ·subst hji;exact hy.stepI hi H
  ·have h1:=H.2 j (ready_mono hj hji)
   obtain ⟨hjun,oj,hoj,hall⟩:=mem_ready.1 hj
   have hun:=(mem_ready.1 hr).1
   obtain ⟨hap,hwl⟩:=hfree listed j oj inv hoj hj hji hun
   have h2:=fN hIn hoj hap (fun cs b=>hsel i oi cs b hi) (fun cs b=>hsel j oj cs b hoj) hwl hy h1
   refine stepI.mono (fun a' w' h3=>ih (listed.setIfInBounds j true) a' w' (hI listed j inv hj hji hun) (ready_mono hr (Ne.symm hji)) h3.1 ?_) h2
   rw [Array.setIfInBounds_comm _ _ hji]
   exact h3.2
def J8 (b:Array Nat) (ops:Array Oper):Bool:=
  (List.range ops.size).all fun j=>match ops[j]? with
    | none=>true
    | some oj=>(List.range ops.size).all fun i=> !(b.getD j 0).testBit i||oj.after.any fun e=>Region.binds .any e&&Nat.blt e.on j&&(Nat.beq e.on i||(b.getD e.on 0).testBit i)
def Kc (cs:CF) (ops:Array Oper) (b:Array Nat) (listed:Array Bool) (k:Nat):Bool:=
  match ops[k]? with
  | none=>false
  | some ok=>(List.range ops.size).all fun j=>Nat.beq j k||listed.getD j true||(b.getD j 0).testBit k||match ops[j]? with
      | none=>true
      | some oj=>ok.apart ops oj&&(match cs k ok,cs j oj with | .load,.wild=>false | _,_=>true)
def Ju (cs : CF) (ops : Array Oper) (b : Array Nat) : List Nat → Array Bool → Bool
  | [], listed => (Region.ready .any ops listed).isEmpty
  | k :: rest, listed => (match ops[k]? with
      | none => false
      | some ok => match cs k ok with
        | .pure | .load => (Region.ready .any ops listed).contains k && Kc cs ops b listed k
        | _ => Region.ready .any ops listed == [k]) && Ju cs ops b rest (listed.setIfInBounds k true)
def N7 (cs:CF) (ops:Array Oper) (ord:List Nat):Bool:=
  Region.noSelect ops&&J8 (Region.before ops) ops&&Nat.beq ord.length ops.size&&Ju cs ops (Region.before ops) ord (Array.replicate ops.size false)
def Hq (ops:Array Oper) (listed:Array Bool):Prop:=∀j oj,ops[j]? =some oj→listed.getD j false=true→∀e∈oj.after,Region.binds .any e=true→listed.getD e.on false=true
theorem TA (m j:Nat):(Array.replicate m false).getD j false=false:=by
 rcases Nat.lt_or_ge j m with h | h <;> simp [h]
theorem Pp {listed:Array Bool} {i:Nat} (h:listed.getD i true=false) (h':listed.getD i false=true):False:=by
 rcases Nat.lt_or_ge i listed.size with hlt | hge
 ·simp [hlt]at h h';rw [h]at h';cases h'
 ·simp [Array.getElem?_eq_none hge]at h
theorem Ob {b:Array Nat} {ops:Array Oper} (h:J8 b ops=true) {j i:Nat} {oj:Oper} (hj:ops[j]? =some oj) (hi:i<ops.size) (hb:(b.getD j 0).testBit i=true):
  ∃e∈oj.after,Region.binds .any e=true∧e.on<j∧(e.on=i∨(b.getD e.on 0).testBit i=true):=by
 have hjlt:=(Array.getElem?_eq_some_iff.1 hj).1
 have h1:=List.all_eq_true.1 h j (List.mem_range.2 hjlt)
 simp only [hj]at h1
 have h2:=List.all_eq_true.1 h1 i (List.mem_range.2 hi)
 rw [hb]at h2
 simp only [Bool.not_true,Bool.false_or]at h2
 obtain ⟨e,he,hx⟩:=Array.any_eq_true'.1 h2
 simp only [Bool.and_eq_true,Bool.or_eq_true,Nat.blt_eq]at hx
 exact ⟨e,he,hx.1.1,hx.1.2,hx.2.imp Nat.eq_of_beq_eq_true id⟩
theorem SA {b:Array Nat} {ops:Array Oper} (h:J8 b ops=true) {listed:Array Bool} (hc:Hq ops listed) {i:Nat} (hi:i<ops.size) (hun:listed.getD i true=false):
  ∀j,listed.getD j false=true→(b.getD j 0).testBit i=true→j<ops.size→False:=by
 intro j
 induction j using Nat.strongRecOn with
 | _ j ih=>
  intro hl hb hj
  obtain ⟨e,he,hbi,hlt,hor⟩:=Ob h (Array.getElem?_eq_getElem hj) hi hb
  have hle:=hc j _ (Array.getElem?_eq_getElem hj) hl e he hbi
  rcases hor with rfl | hb'
  ·exact Pp hun hle
  ·exact ih e.on hlt hle hb' (by omega)
theorem Hq.set {ops:Array Oper} {listed:Array Bool} (hc:Hq ops listed) {i:Nat} (hi:i∈Region.ready .any ops listed):Hq ops (listed.setIfInBounds i true):=by
 obtain ⟨_,oi,hoi,hall⟩:=mem_ready.1 hi
 intro j oj hj hl e he hb
 by_cases hij:i=j
 ·subst hij
  obtain rfl:oj=oi:=Option.some.inj (hj.symm.trans hoi)
  exact getD_set_true (hall e he hb)
 ·rw [getD_set_ne false hij]at hl
  exact getD_set_true (hc j oj hj hl e he hb)
theorem MF {S:Exit→Act→World→Prop} (hIn:∀e a d v w,S e (Act.put a d v) w→S e a w) {cs:CF} {P:Program} {ops:Array Oper} {N:Act→World→Prop} {b:Array Nat} (hs:Region.noSelect ops=true) (hbk:J8 b ops=true):
  ∀ (ord:List Nat) (listed:Array Bool) (a:Act) (w:World),Hq ops listed→Ju cs ops b ord listed=true→GD cs P S ops N ord a w→Fc cs P S ops N ord.length listed a w
 | [],listed,a,w,_,hB,h=>⟨by simpa [Ju]using hB,h⟩
 | k::rest,listed,a,w,hc,hB,h=>by
  simp only [Ju,Bool.and_eq_true]at hB
  obtain ⟨h1,h2⟩:=hB
  have h0:stepI cs P S ops k a w (GD cs P S ops N rest):=h
  obtain ⟨ok,hok,_⟩:=id h0
  have quiet:(cs k ok= .pure∨cs k ok= .load)→(Region.ready .any ops listed).contains k=true→Kc cs ops b listed k=true→Fc cs P S ops N (rest.length+1) listed a w:=by
   intro hcl hr hq
   have hrk:k∈Region.ready .any ops listed:=by simpa using hr
   have hklt:=(Array.getElem?_eq_some_iff.1 hok).1
   obtain ⟨v,hy,hk⟩:=TC hok hcl h0
   refine Rf hIn hok (Region.noSelect_spec hs) (fun l=>Hq ops l∧∀j,listed.getD j true=true→l.getD j true=true) ?_ ?_ rest.length listed a w ⟨hc,fun _ h=>h⟩ hrk hy
    (MF hIn hs hbk rest _ _ _ (hc.set hrk) h2 hk)
   ·intro l j ⟨hcl',hmono⟩ hj hne hun
    refine ⟨hcl'.set hj,fun i hi=> ?_⟩
    by_cases hji:j=i
    ·subst hji
     have hlt:j<l.size:=by
      rcases Nat.lt_or_ge j l.size with h | h
      ·exact h
      ·exact absurd (mem_ready.1 hj).1 (by simp [Array.getElem?_eq_none h])
     simp [hlt]
    ·rw [getD_set_ne true hji];exact hmono i hi
   ·intro l j oj ⟨hcl',hmono⟩ hoj hj hne hun
    have hjlt:=(Array.getElem?_eq_some_iff.1 hoj).1
    obtain ⟨hjun,oj',hoj',hall⟩:=mem_ready.1 hj
    obtain rfl:oj'=oj:=Option.some.inj (hoj'.symm.trans hoj)
    unfold Kc at hq
    simp only [hok]at hq
    have h3:=List.all_eq_true.1 hq j (List.mem_range.2 hjlt)
    have hnl:listed.getD j true=false:=by
     cases hl:listed.getD j true with
     | false=>rfl
     | true=>rw [hmono j hl]at hjun;cases hjun
    simp only [hnl,hoj,Bool.or_false,Bool.or_eq_true,Bool.and_eq_true]at h3
    rcases h3 with (h3 | h3) | h3
    ·exact absurd (Nat.eq_of_beq_eq_true h3) hne
    ·exfalso
     obtain ⟨e,he,hbi,hlt,hor⟩:=Ob hbk hoj hklt h3
     have hle:=hall e he hbi
     rcases hor with rfl | hb'
     ·exact Pp hun hle
     ·exact SA hbk hcl' hklt hun e.on hle hb' (by omega)
    ·have h4:=h3
     refine ⟨h4.1,fun hl hw=> ?_⟩
     have h5:=h4.2
     rw [hl,hw]at h5
     cases h5
  have loud:Region.ready .any ops listed=[k]→Fc cs P S ops N (rest.length+1) listed a w:=by
   intro hr
   refine ⟨fun h=>(by rw [hr]at h;cases h),fun i hi=> ?_⟩
   rw [hr]at hi
   obtain rfl:i=k:=by simpa using hi
   exact h0.mono fun a' w' h'=>MF hIn hs hbk rest _ _ _ (hc.set (by rw [hr];simp)) h2 h'
  simp only [hok]at h1
  generalize hcl:cs k ok=cl at h1
  cases cl with
  | pure=>simp only [Bool.and_eq_true]at h1;exact quiet (.inl hcl) h1.1 h1.2
  | load=>simp only [Bool.and_eq_true]at h1;exact quiet (.inr hcl) h1.1 h1.2
  | grow=>exact loud (by simpa using h1)
  | wild=>exact loud (by simpa using h1)
theorem XB {r:Option Nat} {P:Program} {id:Nat} {ops:Array Oper} {Q S:Exit→Act→World→Prop} (hS:∀e a w,S e a w→Q e a w) (hIn:∀e a d v w,S e (Act.put a d v) w→S e a w) {a:Act} {w:World} (cs:CF) (ord:List Nat) (hD:r=none∨Hm ops=true) (hm:P.follows .mixedOrders=true) (hB:N7 cs ops ord=true)
  (h:GD cs P S ops (Q .normal) ord a {w with drawn:=w.drawn+1}):(Code.region id ops true).wpIn (Dw r) 0 P Q a w:=by
 simp only [N7,Bool.and_eq_true]at hB
 obtain ⟨⟨⟨hs,hb⟩,hl⟩,hsch⟩:=hB
 refine wpIn_region_any hm (Fc.wpAny (cs:=cs) hS hD _ _ _ _ ?_)
 have key:=MF (N:=Q .normal) hIn hs hb ord (Array.replicate ops.size false) a {w with drawn:=w.drawn+1} (fun j oj _ hl'=>absurd hl' (by
  rw [TA];exact Bool.false_ne_true)) hsch h
 rw [Nat.eq_of_beq_eq_true hl]at key
 exact key
theorem gl {r:Option Nat} {P:Program} {id:Nat} {ops:Array Oper} {Q S:Exit→Act→World→Prop} (hS:∀e a w,S e a w→Q e a w) {a:Act} {w:World} (cs:CF) (hD:r=none∨Hm ops=true)
  (h:GD cs P S ops (Q .normal) (List.range ops.size) a w):(Code.region id ops false).wpIn (Dw r) 0 P Q a w:=wpIn_region (Vb hS hD _ _ _ h)
def Dv (ops : Array Oper) (E : Au) (o : Oper) : Option Bool :=
  match o.guard with
  | none => some true
  | some (j, want) => match (ops[j]?).bind (·.dst) with
    | none => none
    | some t => match E.get t with
      | some (.bool b) => some (b == want)
      | some (.tuple _) => some false
      | _ => none
theorem MP {n:Nat} {ops:Array Oper} {E:Au} {o:Oper} {b:Bool} {a:Act} (h:Dv ops E o=some b) (ho:OK n E a):Region.wanted o (yielded ops a.tmps)=b:=by
 unfold Dv at h
 unfold Region.wanted
 cases hg:o.guard with
 | none=>rw [hg]at h;simpa using h
 | some g=>
  obtain ⟨j,want⟩:=g
  rw [hg]at h
  simp only at h ⊢
  cases ht:(ops[j]?).bind (·.dst)with
  | none=>rw [ht]at h;cases h
  | some t=>
   rw [ht]at h
   simp only at h
   unfold yielded
   rw [ht]
   cases he:E.get t with
   | none=>rw [he]at h;cases h
   | some v=>
    rw [he]at h
    simp only [Option.bind_some,ho.get t v he]
    cases v <;> first
     | (cases h;done)
     | (cases h;rfl)
     | (cases h;rename_i b;cases b <;> cases want <;> rfl)
def Ip:Nat→List Oper→List (Nat×Oper)
  | _,[]=>[]
  | i,o::r=>(i,o)::Ip (i+1) r
def Fn (cs:CF) (P:Program) (S:Exit→Act→World→Prop) (ops:Array Oper) (N:Act→World→Prop):List (Nat×Oper)→Act→World→Prop
  | [],a,w=>N a w
  | (i,o)::rest,a,w=>if Region.wanted o (yielded ops a.tmps)=true then HN (cs i o) P S o a w (Fn cs P S ops N rest)else Fn cs P S ops N rest (a.put o.dst undef) w
theorem Jp {S:Exit→Act→World→Prop} {cs:CF} {P:Program} {ops:Array Oper} {N:Act→World→Prop}:∀ (l:List (Nat×Oper)),(∀p∈l,ops[p.1]? =some p.2)→∀a w,Fn cs P S ops N l a w→GD cs P S ops N (l.map (·.1)) a w
 | [],_,_,_,h=>h
 | (i,o)::rest,hl,a,w,h=>by
  have ih:=Jp (S:=S) (cs:=cs) (P:=P) (N:=N) rest (fun p hp=>hl p (List.mem_cons_of_mem _ hp))
  refine ⟨o,hl (i,o) List.mem_cons_self,?_⟩
  simp only [Fn]at h
  split
  ·rename_i hw;rw [if_pos hw]at h;exact h.mono ih
  ·rename_i hw;rw [if_neg hw]at h;exact ih _ _ h
theorem P8:∀ (l:List Oper) (i:Nat),(Ip i l).map (·.1)=List.range' i l.length
 | [],_=>rfl
 | o::r,i=>by simp [Ip,P8 r (i+1),List.range'_succ]
theorem P9:∀ (l:List Oper) (i:Nat) (p:Nat×Oper),p∈Ip i l→i≤p.1∧l[p.1-i]? =some p.2
 | [],_,_,h=>by simp [Ip]at h
 | o::r,i,p,h=>by
  simp only [Ip,List.mem_cons]at h
  rcases h with rfl | h
  ·simp
  ·obtain ⟨h1,h2⟩:=P9 r (i+1) p h
   refine ⟨by omega,?_⟩
   rw [show p.1-i=(p.1 - (i+1))+1 by omega,List.getElem?_cons_succ]
   exact h2
section
variable {c:Cx} {k:List DW} {E:Au} {hp:AA} {ops:Array Oper} {cs:CF}
def PQ (c:Cx) (k:List DW):Exit→Act→World→Prop
  | .panic ch,a,w=>∃E0 D,(OK c.fn.ntmps E0 a∧a.defers=D)∧(c.pd=true→E0=[])∧∀a',(OK c.fn.ntmps E0 a'∧a'.defers=D)→SQ c k (.panic ch) a' w
  | _,_,_=>False
theorem MW (e:Exit) (a:Act) (w:World) (h:PQ c k e a w):SQ c k e a w:=by
 cases e with
 | panic ch=>obtain ⟨E0,D,h1,_,h2⟩:=h;exact h2 a h1
 | _=>exact h.elim
theorem df (a:Act) (d:Option Nat) (v:Value):(a.put d v).tmps.size=a.tmps.size:=by cases d <;> simp [Act.put]
theorem OS (hE:c.pd=true) (e:Exit) (a:Act) (d:Option Nat) (v:Value) (w:World) (h:PQ c k e (a.put d v) w):PQ c k e a w:=by
 cases e with
 | panic ch=>
  obtain ⟨E0,D,h1,h2,h3⟩:=h
  obtain rfl:=h2 hE
  exact ⟨[],D,⟨⟨(df a d v).symm.trans h1.1.size,fun i v hv=>by simp [Au.get]at hv⟩,(put_defers a d v).symm.trans h1.2⟩,fun _=>rfl,h3⟩
 | _=>exact h.elim
def XR (c:Cx) (cs:CF) (ops:Array Oper) (l:List (Nat×Oper)) (k:List DW) (E:Au) (hp:AA):Prop:=
  ∀a w,(OK c.fn.ntmps E a∧a.defers=c.D)→B8 c.w0 w→w.heap=hp→Fn cs c.P (PQ c k) ops (SQ c k .normal) l a w
def Rc:CF:=fun _ _=> .wild
theorem Do {id:Nat} {l:List Oper} (h:XR c Rc l.toArray (Ip 0 l) k E hp) (hD0:c.r=none∨Jb l=true:=by first | exact .inl rfl | exact .inr rfl):X c (.code (.region id l.toArray false)::k) E hp:=by
 intro a w ho hi hw
 have hD:=hD0.imp (fun hh=>hh) LY
 refine gl MW Rc hD ?_
 have:=Jp _ (fun p hp=>by simpa using (P9 l 0 p hp).2) a w (h a w ho hi hw)
 rw [P8]at this
 rw [List.range_eq_range']
 simpa using this
theorem El {id:Nat} {l:List Oper} (cs:CF) (hm:c.P.follows .mixedOrders=true) (hB:N7 cs l.toArray (List.range l.length)=true) (h:XR c cs l.toArray (Ip 0 l) k E hp) (hD0:c.r=none∨Jb l=true:=by first | exact .inl rfl | exact .inr rfl) (hE0:c.pd=true:=by rfl):
  X c (.code (.region id l.toArray true)::k) E hp:=by
 intro a w ho hi hw
 have hD:=hD0.imp (fun hh=>hh) LY
 refine XB MW (OS hE0) cs _ hD hm hB ?_
 have:=Jp _ (fun p hp=>by simpa using (P9 l 0 p hp).2) a {w with drawn:=w.drawn+1} (h a {w with drawn:=w.drawn+1} ho ⟨hi.os,hi.tape,hi.output⟩ hw)
 rw [P8]at this
 rw [List.range_eq_range']
 simpa using this
def pick (ops : List Oper) : List Nat → Option (List (Nat × Oper))
  | [] => some []
  | i :: r => match ops[i]? with
    | none => none
    | some o => match pick ops r with
      | none => none
      | some l => some ((i, o) :: l)
theorem MC {ops:List Oper}:∀ {ord:List Nat} {l:List (Nat×Oper)},pick ops ord=some l→l.map (·.1)=ord∧∀p∈l,ops[p.1]? =some p.2
 | [],l,h=>by simp only [pick]at h;cases h;simp
 | i::r,l,h=>by
  simp only [pick]at h
  split at h
  ·cases h
  ·rename_i o ho
   split at h
   ·cases h
   ·rename_i l' hl'
    cases h
    obtain ⟨h1,h2⟩:=MC hl'
    refine ⟨by simp [h1],fun p hp=> ?_⟩
    rcases List.mem_cons.1 hp with rfl | hp
    ·exact ho
    ·exact h2 p hp
theorem GK {id:Nat} {l:List Oper} (cs:CF) (ord:List Nat) {lo:List (Nat×Oper)} (hm:c.P.follows .mixedOrders=true) (hB:N7 cs l.toArray ord=true) (hl:pick l ord=some lo)
  (h:XR c cs l.toArray lo k E hp) (hD0:c.r=none∨Jb l=true:=by first | exact .inl rfl | exact .inr rfl) (hE0:c.pd=true:=by rfl):X c (.code (.region id l.toArray true)::k) E hp:=by
 intro a w ho hi hw
 have hD:=hD0.imp (fun hh=>hh) LY
 refine XB MW (OS hE0) cs ord hD hm hB ?_
 obtain ⟨h1,h2⟩:=MC hl
 have:=Jp _ (fun p hp=>by simpa using h2 p hp) a {w with drawn:=w.drawn+1} (h a {w with drawn:=w.drawn+1} ho ⟨hi.os,hi.tape,hi.output⟩ hw)
 rwa [h1]at this
def SB (o:Oper):Ca:=
  match o.op with
  | .move _ | .assign _ | .pick .. | .nilCheck _ | .fieldAddr .. | .field .. | .indexAddr .. | .index .. | .extract .. | .unOp .. | .makeInterface .. | .build .. => .pure
  | .binOp .. | .load .. | .convert .. | .slice .. => .load
  | .call {callee:= .builtin .len,..} | .call {callee:= .builtin .cap,..} | .call {callee:= .builtin .min,..} | .call {callee:= .builtin .max,..}=> .load
  | .buildSlice .. | .alloc .. | .box .. | .makeSlice .. => .grow
  | _=> .wild
def H0:CF:=fun _ o=>SB o
def Ck (l : List (Nat × Ca)) : CF := fun i o =>
  match l with
  | [] => SB o
  | (j, x) :: r => match Nat.beq i j with
    | true => x
    | false => Ck r i o
theorem AK {x:Operand} {t e:Code} {p:Prop} [Decidable p] (hx:ev E x=some (.bool (decide p))) (ht:p→X c (.code t::k) E hp) (hf:¬p→X c (.code e::k) E hp):
  X c (.code (.cond x t e)::k) E hp:=C6 hx (fun h=>ht (of_decide_eq_true h)) (fun h=>hf (of_decide_eq_false h))
theorem I9 {x:Operand} {t e:Code} (hx:ev E x=some (.bool true)) (ht:X c (.code t::k) E hp):X c (.code (.cond x t e)::k) E hp:=C6 hx (fun _=>ht) (fun h=>by cases h)
theorem I7 {x:Operand} {t e:Code} (hx:ev E x=some (.bool false)) (hf:X c (.code e::k) E hp):X c (.code (.cond x t e)::k) E hp:=C6 hx (fun h=>by cases h) (fun _=>hf)
theorem DS (h:X c k E hp):XR c cs ops [] k E hp:=h
theorem RR {E':Au} {l:List (Nat×Oper)} (hs:Dc E' E) (h:XR c cs ops l k E' hp):XR c cs ops l k E hp:=fun a w ho hi hw=>h a w ⟨ho.1.sub hs,ho.2⟩ hi hw
def BB (cl : Ca) (P : Program) (o : Oper) (E : Au) (hp : AA) (v : Value) : Prop :=
  ∀ n a, OK n E a → match cl with
    | .pure => ∀ w', (execOp a.eval o).run P w' = .ok (.value v) w'
    | _ => ∀ w' : World, AV hp w'.heap → (execOp a.eval o).run P w' = .ok (.value v) w'
theorem BB.of_pure {cl:Ca} {P:Program} {o:Oper} {v:Value} (h:∀n a,OK n E a→∀w',(execOp a.eval o).run P w'= .ok (.value v) w'):BB cl P o E hp v:=by
 intro n a ho
 have:=h n a ho
 cases cl <;> first | exact this | exact fun w' _=>this w'
theorem XS {i:Nat} {o:Oper} {rest:List (Nat×Oper)} {v:Value} (hf:fits c.fn.ntmps o.dst=true) (hw:Dv ops E o=some true) (h1:BB (cs i o) c.P o E hp v)
  (h:XR c cs ops rest k (E.putD o.dst v) hp):XR c cs ops ((i,o)::rest) k E hp:=by
 intro a w ho hi hh
 subst hh
 simp only [Fn,MP hw ho.1,if_true]
 have h2:=h1 _ a ho.1
 have h3:=h (a.put o.dst v) w ⟨ho.1.put v hf,(put_defers _ _ _).trans ho.2⟩ hi rfl
 generalize cs i o=cl at h2 ⊢
 cases cl with
 | pure=>exact ⟨v,h2,h3⟩
 | load=>exact ⟨v,h2,h3⟩
 | grow=>simp only [HN,Oper.wp,h2 w (AV.refl _),Oper.upon];exact ⟨AV.refl _,h3⟩
 | wild=>refine OM ?_;simp only [Oper.wp,h2 w (AV.refl _),Oper.upon];exact h3
theorem XU {i:Nat} {o:Oper} {rest:List (Nat×Oper)} (hf:fits c.fn.ntmps o.dst=true) (hw:Dv ops E o=some false) (h:XR c cs ops rest k (E.putD o.dst undef) hp):
  XR c cs ops ((i,o)::rest) k E hp:=by
 intro a w ho hi hh
 simp only [Fn,MP hw ho.1,Bool.false_eq_true,if_false]
 exact h (a.put o.dst undef) w ⟨ho.1.put undef hf,(put_defers _ _ _).trans ho.2⟩ hi hh
theorem AD {i:Nat} {d:Tmp} {op:Op} {ty:TypeId} {pos:String} {af:Array Edge} {g:Option (Nat×Bool)} {rest:List (Nat×Oper)} {v:Value}
  (h1:BB (cs i ⟨some d,op,ty,pos,af,g⟩) c.P ⟨some d,op,ty,pos,af,g⟩ E hp v) (hf:Nat.blt d c.fn.ntmps=true) (hw:Dv ops E ⟨some d,op,ty,pos,af,g⟩=some true)
  (h:XR c cs ops rest k ((d,v)::E) hp):XR c cs ops ((i,⟨some d,op,ty,pos,af,g⟩)::rest) k E hp:=XS hf hw h1 h
theorem IZ {i:Nat} {d:Tmp} {op:Op} {ty:TypeId} {pos:String} {af:Array Edge} {g:Option (Nat×Bool)} {rest:List (Nat×Oper)}
  (hw:Dv ops E ⟨some d,op,ty,pos,af,g⟩=some false) (hf:Nat.blt d c.fn.ntmps=true)
  (h:XR c cs ops rest k ((d,undef)::E) hp):XR c cs ops ((i,⟨some d,op,ty,pos,af,g⟩)::rest) k E hp:=XU hf hw h
theorem AT {l:List (Nat×Oper)} {t:Nat} {v:Value} (v':Value) (hv:v=v') (h:XR c cs ops l k ((t,v')::E) hp):XR c cs ops l k ((t,v)::E) hp:=by subst hv;exact h
theorem RQ {l:List (Nat×Oper)} (t:Nat) {b:Bool} (hb:E.get t=some (.bool b)) (ht:b=true→XR c cs ops l k ((t,.bool true)::E) hp) (hf:b=false→XR c cs ops l k ((t,.bool false)::E) hp):
  XR c cs ops l k E hp:=by
 have hs:∀b':Bool,b=b'→Dc ((t,.bool b')::E) E:=fun b' e=>Dc.cons (e▸hb) (Dc.refl E)
 cases b
 ·exact RR (hs false rfl) (hf rfl)
 ·exact RR (hs true rfl) (ht rfl)
theorem Am {l:List (Nat×Oper)} (t:Nat) {p:Prop} [Decidable p] (hb:E.get t=some (.bool (decide p))) (ht:p→XR c cs ops l k ((t,.bool true)::E) hp) (hf:¬p→XR c cs ops l k ((t,.bool false)::E) hp):
  XR c cs ops l k E hp:=RQ t hb (fun h=>ht (of_decide_eq_true h)) (fun h=>hf (of_decide_eq_false h))
def Bd (P:Program) (o:Oper) (E:Au) (hp:AA) (Φ:Value→AA→Prop):Prop:=
  ∀n a w,OK n E a→w.heap=hp→∀K:Act→World→Prop,(∀v w',B8 w w'→Φ v w'.heap→K (a.put o.dst v) w')→o.wp P a w K J4
theorem RS {i:Nat} {o:Oper} {rest:List (Nat×Oper)} {Φ:Value→AA→Prop} (hf:fits c.fn.ntmps o.dst=true) (hw:Dv ops E o=some true) (hc:cs i o= .wild) (h1:Bd c.P o E hp Φ)
  (h:∀v hp',Φ v hp'→XR c cs ops rest k (E.putD o.dst v) hp'):XR c cs ops ((i,o)::rest) k E hp:=by
 intro a w ho hi hh
 simp only [Fn,MP hw ho.1,if_true,hc,HN]
 exact OM (h1 _ a w ho.1 hh _ fun v w' hi' hΦ=>h v w'.heap hΦ (a.put o.dst v) w' ⟨ho.1.put v hf,(put_defers _ _ _).trans ho.2⟩ (hi.trans hi') rfl)
theorem BN {i:Nat} {d:Tmp} {op:Op} {ty:TypeId} {pos:String} {af:Array Edge} {g:Option (Nat×Bool)} {rest:List (Nat×Oper)} {Φ:Value→AA→Prop}
  (h1:Bd c.P ⟨some d,op,ty,pos,af,g⟩ E hp Φ) (hc:cs i ⟨some d,op,ty,pos,af,g⟩= .wild) (hf:Nat.blt d c.fn.ntmps=true) (hw:Dv ops E ⟨some d,op,ty,pos,af,g⟩=some true)
  (h:∀v hp',Φ v hp'→XR c cs ops rest k ((d,v)::E) hp'):XR c cs ops ((i,⟨some d,op,ty,pos,af,g⟩)::rest) k E hp:=RS hf hw hc h1 h
theorem BT {i:Nat} {op:Op} {ty:TypeId} {pos:String} {af:Array Edge} {g:Option (Nat×Bool)} {rest:List (Nat×Oper)} {Φ:Value→AA→Prop}
  (h1:Bd c.P ⟨none,op,ty,pos,af,g⟩ E hp Φ) (hc:cs i ⟨none,op,ty,pos,af,g⟩= .wild) (hw:Dv ops E ⟨none,op,ty,pos,af,g⟩=some true)
  (h:∀v hp',Φ v hp'→XR c cs ops rest k E hp'):XR c cs ops ((i,⟨none,op,ty,pos,af,g⟩)::rest) k E hp:=RS rfl hw hc h1 h
theorem XT {i:Nat} {o:Oper} {rest:List (Nat×Oper)} {Φ:Value→AA→Prop} (hf:fits c.fn.ntmps o.dst=true) (hw:Dv ops E o=some true) (hc:cs i o= .grow) (h1:Bd c.P o E hp Φ)
  (hx:∀v hp',Φ v hp'→AV hp hp') (h:∀v hp',Φ v hp'→XR c cs ops rest k (E.putD o.dst v) hp'):XR c cs ops ((i,o)::rest) k E hp:=by
 intro a w ho hi hh
 simp only [Fn,MP hw ho.1,if_true,hc,HN]
 exact W9 (h1 _ a w ho.1 hh _ fun v w' hi' hΦ=>⟨by rw [hh];exact hx v w'.heap hΦ,h v w'.heap hΦ (a.put o.dst v) w' ⟨ho.1.put v hf,(put_defers _ _ _).trans ho.2⟩ (hi.trans hi') rfl⟩)
theorem BW {i:Nat} {d:Tmp} {op:Op} {ty:TypeId} {pos:String} {af:Array Edge} {g:Option (Nat×Bool)} {rest:List (Nat×Oper)} {Φ:Value→AA→Prop}
  (h1:Bd c.P ⟨some d,op,ty,pos,af,g⟩ E hp Φ) (hc:cs i ⟨some d,op,ty,pos,af,g⟩= .grow) (hf:Nat.blt d c.fn.ntmps=true) (hw:Dv ops E ⟨some d,op,ty,pos,af,g⟩=some true)
  (hx:∀v hp',Φ v hp'→AV hp hp') (h:∀v hp',Φ v hp'→XR c cs ops rest k ((d,v)::E) hp'):XR c cs ops ((i,⟨some d,op,ty,pos,af,g⟩)::rest) k E hp:=XT hf hw hc h1 hx h
end
attribute [irreducible] X XR
end Go.Bn
end

section
namespace Go.Bn
open Go
structure AE where
  P:AA→(Nat→Prop)→Prop
  loc:∀ {h h':AA} {S:Nat→Prop},P h S→(∀k,S k→h'[k]? =h[k]?)→P h' S
  lt:∀ {h:AA} {S:Nat→Prop},P h S→∀k,S k→k<h.size
def HS (B:Nat) (hp:AA):List AE→(Nat→Prop)→Prop
  | [],S=>∀k,¬S k
  | r::rs,S=>∃S1 S2,r.P hp S1∧HS B hp rs S2∧(∀k,S1 k→¬S2 k)∧(∀k,S k↔S1 k∨S2 k)∧∀k,S1 k→B≤k
def H (B:Nat) (hp:AA) (rs:List AE):Prop:=∃S,HS B hp rs S
theorem HS.lt {B:Nat} {hp:AA}:∀ {rs:List AE} {S:Nat→Prop},HS B hp rs S→∀k,S k→k<hp.size
 | [],_,h,k,hk=>absurd hk (h k)
 | r::rs,S,⟨S1,S2,h1,h2,_,hS,_⟩,k,hk=>by
  rcases (hS k).1 hk with h | h
  ·exact r.lt h1 k h
  ·exact HS.lt h2 k h
theorem HS.loc {B:Nat} {hp hp':AA}:∀ {rs:List AE} {S:Nat→Prop},HS B hp rs S→(∀k,S k→hp'[k]? =hp[k]?)→HS B hp' rs S
 | [],_,h,_=>h
 | r::_,_,⟨S1,S2,h1,h2,hd,hS,hb⟩,he=>⟨S1,S2,r.loc h1 (fun k hk=>he k ((hS k).2 (.inl hk))),HS.loc h2 (fun k hk=>he k ((hS k).2 (.inr hk))),hd,hS,hb⟩
theorem HS.iff {B:Nat} {hp:AA}:∀ {rs:List AE} {S S':Nat→Prop},HS B hp rs S→(∀k,S' k↔S k)→HS B hp rs S'
 | [],_,_,h,he=>fun k hk=>h k ((he k).1 hk)
 | _::_,_,_,⟨S1,S2,h1,h2,hd,hS,hb⟩,he=>⟨S1,S2,h1,h2,hd,fun k=>(he k).trans (hS k),hb⟩
theorem H.nil (B:Nat) (hp:AA):H B hp []:=⟨fun _=>False,fun _ h=>h⟩
theorem H.ext {B:Nat} {hp hp':AA} {rs:List AE} (h:H B hp rs) (hx:AV hp hp'):H B hp' rs:=by
 obtain ⟨S,h⟩:=h
 exact ⟨S,h.loc fun k hk=>hx.blk k (h.lt k hk)⟩
theorem H.tail {B:Nat} {hp:AA} {r:AE} {rs:List AE} (h:H B hp (r::rs)):H B hp rs:=by
 obtain ⟨S,S1,S2,_,h2,_⟩:=h;exact ⟨S2,h2⟩
theorem H.head {B:Nat} {hp:AA} {r:AE} {rs:List AE} (h:H B hp (r::rs)):∃S,r.P hp S:=by
 obtain ⟨S,S1,S2,h1,_⟩:=h;exact ⟨S1,h1⟩
theorem HS.perm {B:Nat} {hp:AA} {rs rs':List AE} (hp':List.Perm rs rs'):∀ {S:Nat→Prop},HS B hp rs S→HS B hp rs' S:=by
 induction hp' with
 | nil=>exact fun h=>h
 | cons r _ ih=>rintro S ⟨S1,S2,h1,h2,hd,hS,hb⟩;exact ⟨S1,S2,h1,ih h2,hd,hS,hb⟩
 | swap r r' l=>
  rintro S ⟨S1,S2,h1,⟨T1,T2,k1,k2,kd,kS,kb⟩,hd,hS,hb⟩
  refine ⟨T1,fun k=>S1 k∨T2 k,k1,⟨S1,T2,h1,k2,fun k hk ht=>hd k hk ((kS k).2 (.inr ht)),fun _=>Iff.rfl,hb⟩,?_,?_,kb⟩
  ·intro k hk hor
   rcases hor with h | h
   ·exact hd k h ((kS k).2 (.inl hk))
   ·exact kd k hk h
  ·intro k
   rw [hS k,kS k]
   constructor
   ·rintro (h | h | h)
    ·exact .inr (.inl h)
    ·exact .inl h
    ·exact .inr (.inr h)
   ·rintro (h | h | h)
    ·exact .inr (.inl h)
    ·exact .inl h
    ·exact .inr (.inr h)
 | trans _ _ ih1 ih2=>exact fun h=>ih2 (ih1 h)
theorem H.perm {B:Nat} {hp:AA} {rs rs':List AE} (h:H B hp rs) (hp':List.Perm rs rs'):H B hp rs':=h.imp fun _ h=>h.perm hp'
def HR (r:AE) (hp:AA) (r':AE) (hp':AA):Prop:=
  hp.size≤hp'.size∧∀S,r.P hp S→∃S',r'.P hp' S'∧(∀k,S' k→S k∨hp.size≤k)∧∀k,k<hp.size→¬S k→hp'[k]? =hp[k]?
theorem H.upd {B:Nat} {hp hp':AA} {r r':AE} {rs:List AE} (h:H B hp (r::rs)) (hB:B≤hp.size) (u:HR r hp r' hp'):H B hp' (r'::rs)∧BC B hp hp':=by
 obtain ⟨S,S1,S2,h1,h2,hd,hS,hb⟩:=h
 obtain ⟨hsz,u⟩:=u
 obtain ⟨S',hr',hfr,hk⟩:=u S1 h1
 refine ⟨⟨fun k=>S' k∨S2 k,S',S2,hr',h2.loc (fun k hk2=>hk k (h2.lt k hk2) (fun h=>hd k h hk2)),?_,fun _=>Iff.rfl,?_⟩,hsz,?_⟩
 ·intro k hk' hk2
  rcases hfr k hk' with h | h
  ·exact hd k h hk2
  ·have:=h2.lt k hk2;omega
 ·intro k hk'
  rcases hfr k hk' with h | h
  ·exact hb k h
  ·omega
 ·intro k hkB
  exact hk k (by omega) (fun h=>by have:=hb k h;omega)
def EZ (r:AE) (hp hp':AA):Prop:=AV hp hp'∧∃S,r.P hp' S∧∀k,S k→hp.size≤k
theorem H.new {B:Nat} {hp hp':AA} {r:AE} {rs:List AE} (h:H B hp rs) (hB:B≤hp.size) (n:EZ r hp hp'):H B hp' (r::rs)∧BC B hp hp':=by
 obtain ⟨S,h⟩:=h
 obtain ⟨hx,S1,h1,hk⟩:=n
 refine ⟨⟨fun k=>S1 k∨S k,S1,S,h1,h.loc fun k hk=>hx.blk k (h.lt k hk),fun k h1 h2=> ?_,fun _=>Iff.rfl,fun k h1=>Nat.le_trans hB (hk k h1)⟩,hx.mono hB⟩
 have:=hk k h1;have:=h.lt k h2;omega
theorem H.join {B:Nat} {hp hp':AA} {rs rs':List AE} (h:H B hp rs) (hB:B≤hp.size) (hx:AV hp hp') (h':H hp.size hp' rs'):H B hp' (rs'++rs):=by
 obtain ⟨S,h⟩:=h
 obtain ⟨S',h'⟩:=h'
 have hl:=h.loc (hp':=hp') fun k hk=>hx.blk k (h.lt k hk)
 have key:∀ {rs':List AE} {S':Nat→Prop},HS hp.size hp' rs' S'→HS B hp' (rs'++rs) (fun k=>S' k∨S k):=by
  intro rs'
  induction rs' with
  | nil=>intro S' h';exact hl.iff fun k=>⟨fun hk=>hk.resolve_left (h' k),.inr⟩
  | cons r rs' ih=>
   rintro S' ⟨S1,S2,h1,h2,hd,hS,hb⟩
   refine ⟨S1,fun k=>S2 k∨S k,h1,ih h2,?_,?_,fun k hk=>Nat.le_trans hB (hb k hk)⟩
   ·intro k hk hor
    rcases hor with h0 | h0
    ·exact hd k hk h0
    ·have:=hb k hk;have:=h.lt k h0;omega
   ·intro k
    simp only [hS k,or_assoc]
 exact ⟨_,key h'⟩
def CD (a b:AE):AE where
  P h S:=∃S1 S2,a.P h S1∧b.P h S2∧(∀k,S1 k→¬S2 k)∧∀k,S k↔S1 k∨S2 k
  loc:=by
    rintro h h' S ⟨S1,S2,h1,h2,hd,hS⟩ he
    exact ⟨S1,S2,a.loc h1 (fun k hk=>he k ((hS k).2 (.inl hk))),b.loc h2 (fun k hk=>he k ((hS k).2 (.inr hk))),hd,hS⟩
  lt:=by
    rintro h S ⟨S1,S2,h1,h2,hd,hS⟩ k hk
    rcases (hS k).1 hk with h | h
    · exact a.lt h1 k h
    · exact b.lt h2 k h
def Cb {α:Type} (f:α→AE):AE where
  P h S:=∃x,(f x).P h S
  loc:=by rintro h h' S ⟨x,hx⟩ he;exact ⟨x,(f x).loc hx he⟩
  lt:=by rintro h S ⟨x,hx⟩;exact (f x).lt hx
def Fb (p:Prop) (r:AE):AE where
  P h S:=p∧r.P h S
  loc:=by rintro h h' S ⟨hp,hx⟩ he;exact ⟨hp,r.loc hx he⟩
  lt:=by rintro h S ⟨_,hx⟩;exact r.lt hx
def emp:AE where
  P _ S:=∀k,¬S k
  loc:=fun h _=>h
  lt:=fun h k hk=>absurd hk (h k)
theorem H.star {B:Nat} {hp:AA} {a b:AE} {rs:List AE}:H B hp (CD a b::rs)↔H B hp (a::b::rs):=by
 constructor
 ·rintro ⟨S,S1,S2,⟨T1,T2,t1,t2,td,tS⟩,h2,hd,hS,hb⟩
  refine ⟨S,T1,fun k=>T2 k∨S2 k,t1,⟨T2,S2,t2,h2,fun k hk=>hd k ((tS k).2 (.inr hk)),fun _=>Iff.rfl,fun k hk=>hb k ((tS k).2 (.inr hk))⟩,?_,?_,fun k hk=>hb k ((tS k).2 (.inl hk))⟩
  ·rintro k hk (h | h)
   ·exact td k hk h
   ·exact hd k ((tS k).2 (.inl hk)) h
  ·intro k;simp only [hS k,tS k,or_assoc]
 ·rintro ⟨S,T1,S',t1,⟨T2,S2,t2,h2,td2,tS2,tb2⟩,hd,hS,hb⟩
  refine ⟨S,fun k=>T1 k∨T2 k,S2,⟨T1,T2,t1,t2,fun k hk h=>hd k hk ((tS2 k).2 (.inl h)),fun _=>Iff.rfl⟩,h2,?_,?_,?_⟩
  ·rintro k (h | h) h'
   ·exact hd k h ((tS2 k).2 (.inr h'))
   ·exact td2 k h h'
  ·intro k;simp only [hS k,tS2 k,or_assoc]
  ·rintro k (h | h)
   ·exact hb k h
   ·exact tb2 k h
theorem H.ex {B:Nat} {hp:AA} {α:Type} {f:α→AE} {rs:List AE}:H B hp (Cb f::rs)↔∃x,H B hp (f x::rs):=by
 constructor
 ·rintro ⟨S,S1,S2,⟨x,hx⟩,r⟩;exact ⟨x,S,S1,S2,hx,r⟩
 ·rintro ⟨x,S,S1,S2,hx,r⟩;exact ⟨S,S1,S2,⟨x,hx⟩,r⟩
theorem H.and {B:Nat} {hp:AA} {p:Prop} {r:AE} {rs:List AE}:H B hp (Fb p r::rs)↔p∧H B hp (r::rs):=by
 constructor
 ·rintro ⟨S,S1,S2,⟨x,hx⟩,r⟩;exact ⟨x,S,S1,S2,hx,r⟩
 ·rintro ⟨x,S,S1,S2,hx,r⟩;exact ⟨S,S1,S2,⟨x,hx⟩,r⟩
theorem H.emp {B:Nat} {hp:AA} {rs:List AE}:H B hp (Bn.emp::rs)↔H B hp rs:=by
 constructor
 ·exact H.tail
 ·rintro ⟨S,h⟩
  exact ⟨S,fun _=>False,S,fun _ h=>h,h,fun _ h=>h.elim,fun k=>(or_iff_right (fun h=>h)).symm,fun _ h=>h.elim⟩
def Az (hp:AA) (a:Addr):Option Value:=
  match hp[a.block]? with
  | some (.cells c _ _)=>if a.spot.isSome then none else c[a.off]?
  | _=>none
theorem Ol (w:World) (a:Addr):w.cell? a=Az w.heap a:=rfl
def Ih (hp:AA) (a:Addr):Bool:=
  match hp[a.block]? with
  | some (.cells _ _ (lo,hi))=>lo≤a.off&&a.off<hi
  | _=>false
theorem R4 {hp:AA} {a:Addr} {v:Value} (h:Az hp a=some v):a.block<hp.size:=by
 unfold Az at h
 split at h
 ·rename_i hh;exact (Array.getElem?_eq_some_iff.1 hh).1
 ·cases h
theorem Bz {hp hp':AA} {a:Addr} {v:Value} (hx:AV hp hp') (h:Az hp a=some v):Az hp' a=some v:=by
 have:=R4 h
 unfold Az at*
 rw [hx.blk _ this];exact h
theorem Yd {B:Nat} {hp hp':AA} {a:Addr} (hx:BC B hp hp') (h:a.block<B):Az hp' a=Az hp a:=by
 unfold Az
 rw [hx.blk _ h]
def pt (p:Nat) (T:TypeId) (cs:List Value):AE where
  P h S:=(∀k,S k↔k=p)∧h[p]? =some (.cells cs.toArray T (0,0))
  loc:=by rintro h h' S ⟨hS,hx⟩ he;exact ⟨hS,by rw [he p ((hS p).2 rfl)];exact hx⟩
  lt:=by rintro h S ⟨hS,hx⟩ k hk;rw [(hS k).1 hk];exact (Array.getElem?_eq_some_iff.1 hx).1
def IR (hp:AA) (a:Addr) (v:Value):AA:=
  hp.modify a.block fun
    | .cells c elem frozen=> .cells (if a.spot.isSome then c else c.setIfInBounds a.off v) elem frozen
    | o=>o
theorem Qi (hp:AA) (a:Addr) (v:Value):(IR hp a v).size=hp.size:=by simp [IR]
theorem Qg (hp:AA) (a:Addr) (v:Value) (k:Nat) (hk:k≠a.block):(IR hp a v)[k]? =hp[k]? :=by
 simp only [IR,Array.getElem?_modify];rw [if_neg (Ne.symm hk)]
theorem Qh {hp:AA} {p i:Nat} {cs:Array Value} {T:TypeId} {fr:Nat×Nat} (v:Value) (h:hp[p]? =some (.cells cs T fr)):(IR hp ⟨p,i,none⟩ v)[p]? =some (.cells (cs.setIfInBounds i v) T fr):=by
 simp [IR,Array.getElem?_modify,h]
theorem f5 {p i:Nat} {T:TypeId} {cs:List Value} {hp:AA} (v:Value):HR (pt p T cs) hp (pt p T (cs.set i v)) (IR hp ⟨p,i,none⟩ v):=by
 refine ⟨by rw [Qi];exact Nat.le_refl _,fun S ⟨hS,h⟩=>⟨S,⟨hS,?_⟩,fun k hk=> .inl hk,fun k _ hk=>Qg _ _ _ _ (fun e=>hk ((hS k).2 e))⟩⟩
 rw [Qh v h]
 simp
theorem Po {T:TypeId} {cs:List Value} (hp:AA):EZ (pt hp.size T cs) hp (hp.push (.cells cs.toArray T)):=by
 refine ⟨⟨by simp,fun k hk=>by rw [Array.getElem?_push];rw [if_neg (by omega)]⟩,fun k=>k=hp.size,⟨fun _=>Iff.rfl,by simp⟩,fun k hk=>by omega⟩
def Kl (n:Nat) (fr:Nat×Nat):Prop:=fr.1=fr.2∨n≤fr.1
theorem Kl.free {n:Nat} {fr:Nat×Nat} (h:Kl n fr):∀i,i<n→¬ (fr.1≤i∧i<fr.2):=by
 intro i hi hh;rcases h with h | h <;> omega
def Hv (e:TypeId) (sz:Nat) (v:Value) (vs:List Value) (h:AA) (S:Nat→Prop):Prop:=
  (v= .slice none 0 0∧vs=[]∧∀k,¬S k)∨
  ∃g n cap cur fr,v= .slice (some ⟨g,0,none⟩) n cap∧h[g]? =some (.cells cur e fr)∧n≤cap∧cap≤maxLen∧cur.size=cap*sz∧cur.toList.take (n*sz)=vs∧vs.length=n*sz∧Kl cur.size fr∧∀k,S k↔k=g
def row (e:TypeId) (sz:Nat) (v:Value) (vs:List Value):AE where
  P:=Hv e sz v vs
  loc:=by
    rintro h h' S (⟨h1,h2,h3⟩ | ⟨g,n,cap,cur,fr,h1,h2,h3,h4,h5,h6,h7,h8,hS⟩) he
    · exact .inl ⟨h1,h2,h3⟩
    · exact .inr ⟨g,n,cap,cur,fr,h1,by rw [he g ((hS g).2 rfl)];exact h2,h3,h4,h5,h6,h7,h8,hS⟩
  lt:=by
    rintro h S (⟨h1,h2,h3⟩ | ⟨g,n,cap,cur,fr,h1,h2,h3,h4,h5,h6,h7,h8,hS⟩) k hk
    · exact absurd hk (h3 k)
    · rw [(hS k).1 hk];exact (Array.getElem?_eq_some_iff.1 h2).1
def Rd (hp:AA) (A:Option Addr) (vs:List Value):Prop:=
  vs=[]∨∃b o,A=some ⟨b,o,none⟩∧∀i u,vs[i]? =some u→Az hp ⟨b,o+i,none⟩=some u
theorem Rd.nil (hp:AA) (A:Option Addr):Rd hp A []:= .inl rfl
theorem Rd.at_ {hp:AA} {A:Option Addr} {vs:List Value} (h:Rd hp A vs) (hl:0<vs.length):∃b o,A=some ⟨b,o,none⟩∧∀i u,vs[i]? =some u→Az hp ⟨b,o+i,none⟩=some u:=by
 rcases h with rfl | h
 ·simp at hl
 ·exact h
theorem Rd.ext {hp hp':AA} {A:Option Addr} {vs:List Value} (h:Rd hp A vs) (hx:AV hp hp'):Rd hp' A vs:=by
 rcases h with h | ⟨b,o,hA,hc⟩
 ·exact .inl h
 ·exact .inr ⟨b,o,hA,fun i u hu=>Bz hx (hc i u hu)⟩
theorem Rd.take {hp:AA} {A:Option Addr} {vs:List Value} (h:Rd hp A vs) (n:Nat):Rd hp A (vs.take n):=by
 rcases h with rfl | ⟨b,o,hA,hc⟩
 ·exact .inl (by simp)
 ·refine .inr ⟨b,o,hA,fun i u hu=>hc i u ?_⟩
  rw [List.getElem?_take]at hu
  split at hu
  ·exact hu
  ·cases hu
theorem Hv.rd {e:TypeId} {sz:Nat} {v:Value} {vs:List Value} {h:AA} {S:Nat→Prop} (hr:Hv e sz v vs h S):∃A n c,v= .slice A n c∧vs.length=n*sz∧n≤c∧c≤maxLen∧Rd h A vs:=by
 rcases hr with ⟨rfl,rfl,_⟩ | ⟨g,n,cap,cur,fr,rfl,h2,h3,h4,h5,h6,h7,h8,hS⟩
 ·exact ⟨none,0,0,rfl,by simp,Nat.le_refl _,by simp [maxLen],.inl rfl⟩
 ·refine ⟨_,n,cap,rfl,h7,h3,h4,.inr ⟨g,0,rfl,fun i u hu=> ?_⟩⟩
  simp only [Az,h2,Nat.zero_add]
  rw [←h6,List.getElem?_take]at hu
  split at hu
  ·simpa using hu
  ·cases hu
theorem IM:∀ {rs:List AE} {j:Nat} {r:AE},rs[j]? =some r→List.Perm rs (r::rs.eraseIdx j)∧∀r',List.Perm (r'::rs.eraseIdx j) (rs.set j r')
 | [],_,_,h=>by simp at h
 | x::rs,0,r,h=>by
  simp at h;subst h
  exact ⟨List.Perm.refl _,fun r'=>List.Perm.refl _⟩
 | x::rs,j+1,r,h=>by
  obtain ⟨h1,h2⟩:=IM (rs:=rs) (j:=j) (r:=r) (by simpa using h)
  refine ⟨?_,fun r'=> ?_⟩
  ·simp only [List.eraseIdx_cons_succ]
   exact (h1.cons x).trans (List.Perm.swap _ _ _)
  ·simp only [List.eraseIdx_cons_succ,List.set_cons_succ]
   exact (List.Perm.swap _ _ _).trans ((h2 r').cons x)
structure St (B:Nat) (h0 hp:AA) (rs:List AE):Prop where
  low:BC B h0 hp
  base:B≤h0.size
  own:H B hp rs
theorem St.here {B:Nat} {h0 hp:AA} {rs:List AE} (s:St B h0 hp rs):St B hp hp rs:=⟨BC.refl _ _,Nat.le_trans s.base s.low.size,s.own⟩
theorem St.start (hp:AA):St hp.size hp hp []:=⟨BC.refl _ _,Nat.le_refl _,H.nil _ _⟩
theorem St.trans {B:Nat} {h0 hp hp':AA} {rs rs':List AE} (s:St B h0 hp rs) (t:St B hp hp' rs'):St B h0 hp' rs':=⟨s.low.trans t.low,s.base,t.own⟩
theorem St.ext {B:Nat} {h0 hp hp':AA} {rs:List AE} (s:St B h0 hp rs) (hx:AV hp hp'):St B h0 hp' rs:=⟨s.low.then_ext s.base hx,s.base,s.own.ext hx⟩
theorem St.join {B:Nat} {h0 hp hp':AA} {rs rs':List AE} (s:St B h0 hp rs) (t:St hp.size hp hp' rs'):St B h0 hp' (rs'++rs):=
 ⟨s.low.then_ext s.base t.low,s.base,s.own.join (Nat.le_trans s.base s.low.size) t.low t.own⟩
theorem St.perm {B:Nat} {h0 hp:AA} {rs rs':List AE} (s:St B h0 hp rs) (h:List.Perm rs rs'):St B h0 hp rs':=⟨s.low,s.base,s.own.perm h⟩
theorem St.tail {B:Nat} {h0 hp:AA} {r:AE} {rs:List AE} (s:St B h0 hp (r::rs)):St B h0 hp rs:=⟨s.low,s.base,s.own.tail⟩
theorem St.drop {B:Nat} {h0 hp:AA} {rs:List AE} (s:St B h0 hp rs):St B h0 hp []:=⟨s.low,s.base,H.nil _ _⟩
theorem St.at_ {B:Nat} {h0 hp:AA} {rs:List AE} (s:St B h0 hp rs) {j:Nat} {r:AE} (hj:rs[j]? =some r):∃S,r.P hp S∧∀k,S k→B≤k:=by
 obtain ⟨S,S1,S2,h1,_,_,_,hb⟩:=s.own.perm (IM hj).1
 exact ⟨S1,h1,hb⟩
theorem St.upd {B:Nat} {h0 hp hp':AA} {rs:List AE} (s:St B h0 hp rs) {j:Nat} {r r':AE} (hj:rs[j]? =some r) (u:HR r hp r' hp'):St B h0 hp' (rs.set j r'):=by
 obtain ⟨h1,h2⟩:=(s.own.perm (IM hj).1).upd (Nat.le_trans s.base s.low.size) u
 exact ⟨s.low.trans h2,s.base,h1.perm ((IM hj).2 r')⟩
theorem St.new {B:Nat} {h0 hp hp':AA} {rs:List AE} (s:St B h0 hp rs) {r:AE} (n:EZ r hp hp'):St B h0 hp' (r::rs):=by
 obtain ⟨h1,h2⟩:=s.own.new (Nat.le_trans s.base s.low.size) n
 exact ⟨s.low.trans h2,s.base,h1⟩
theorem St.cell {B:Nat} {h0 hp:AA} {rs:List AE} (s:St B h0 hp rs) (j:Nat) {p i:Nat} {T:TypeId} {cs:List Value} {v:Value} (hj:rs[j]? =some (pt p T cs)) (hv:cs[i]? =some v):Az hp ⟨p,i,none⟩=some v:=by
 obtain ⟨S,h,_⟩:=s.at_ hj
 simp [Az,h.2,hv]
theorem St.row {B:Nat} {h0 hp:AA} {rs:List AE} (s:St B h0 hp rs) (j:Nat) {e sz:Nat} {v:Value} {vs:List Value} (hj:rs[j]? =some (row e sz v vs)):
  ∃A n c,v= .slice A n c∧vs.length=n*sz∧n≤c∧c≤maxLen∧Rd hp A vs:=by
 obtain ⟨S,h,_⟩:=s.at_ hj
 exact h.rd
theorem St.rdS {B:Nat} {h0 hp:AA} {rs:List AE} (s:St B h0 hp rs) (j:Nat) {e sz n c:Nat} {A:Option Addr} {vs:List Value} (hj:rs[j]? =some (Bn.row e sz (.slice A n c) vs)):vs.length=n*sz∧Rd hp A vs:=by
 obtain ⟨A',n',c',he,h1,_,_,h2⟩:=s.row j hj
 cases he
 exact ⟨h1,h2⟩
theorem St.star {B:Nat} {h0 hp:AA} {a b:AE} {rs:List AE}:St B h0 hp (CD a b::rs)↔St B h0 hp (a::b::rs):=
 ⟨fun s=>⟨s.low,s.base,H.star.1 s.own⟩,fun s=>⟨s.low,s.base,H.star.2 s.own⟩⟩
theorem St.ex {B:Nat} {h0 hp:AA} {α:Type} {f:α→AE} {rs:List AE}:St B h0 hp (Cb f::rs)↔∃x,St B h0 hp (f x::rs):=
 ⟨fun s=>(H.ex.1 s.own).imp fun _ h=>⟨s.low,s.base,h⟩,fun ⟨x,s⟩=>⟨s.low,s.base,H.ex.2 ⟨x,s.own⟩⟩⟩
theorem St.and {B:Nat} {h0 hp:AA} {p:Prop} {r:AE} {rs:List AE}:St B h0 hp (Fb p r::rs)↔p∧St B h0 hp (r::rs):=
 ⟨fun s=>⟨(H.and.1 s.own).1,s.low,s.base,(H.and.1 s.own).2⟩,fun ⟨h,s⟩=>⟨s.low,s.base,H.and.2 ⟨h,s.own⟩⟩⟩
theorem St.emp {B:Nat} {h0 hp:AA} {rs:List AE}:St B h0 hp (Bn.emp::rs)↔St B h0 hp rs:=
 ⟨fun s=>⟨s.low,s.base,H.emp.1 s.own⟩,fun s=>⟨s.low,s.base,H.emp.2 s.own⟩⟩
end Go.Bn
end

section
namespace Go.Bn
open Go
section
variable {P:Program} {E:Au} {hp:AA} {cl:Ca} {d:Option Tmp} {ty:TypeId} {pos:String} {af:Array Edge} {g:Option (Nat×Bool)}
theorem DZ {x:Operand} {v:Value} (hx:ev E x=some v):BB cl P ⟨d,.move x,ty,pos,af,g⟩ E hp v:=
 .of_pure fun n a ho w'=>by simp [execOp,ho.eval hx]
theorem Cm {x:Operand} {v:Value} (hx:ev E x=some v):BB cl P ⟨d,.assign x,ty,pos,af,g⟩ E hp v:=
 .of_pure fun n a ho w'=>by simp [execOp,ho.eval hx]
theorem KX {c x y:Operand} {v:Value} (hc:ev E c=some (.bool true)) (hx:ev E x=some v):BB cl P ⟨d,.pick c x y,ty,pos,af,g⟩ E hp v:=
 .of_pure fun n a ho w'=>by simp [execOp,ho.eval hc,ho.eval hx,asBool]
theorem KW {c x y:Operand} {v:Value} (hc:ev E c=some (.bool false)) (hy:ev E y=some v):BB cl P ⟨d,.pick c x y,ty,pos,af,g⟩ E hp v:=
 .of_pure fun n a ho w'=>by simp [execOp,ho.eval hc,ho.eval hy,asBool]
theorem Ls {x:Operand} {ad:Addr} (hx:ev E x=some (.pointer (some ad))):BB cl P ⟨d,.nilCheck x,ty,pos,af,g⟩ E hp (.pointer (some ad)):=
 .of_pure fun n a ho w'=>by simp [execOp,ho.eval hx]
theorem Ld {x:Operand} {i:Nat} {vs:Array Value} {v:Value} (hx:ev E x=some (.tuple vs)) (hv:vs[i]? =some v):BB cl P ⟨d,.extract x i,ty,pos,af,g⟩ E hp v:=
 .of_pure fun n a ho w'=>by simp [execOp,ho.eval hx,Instr.extract,hv]
def M0 (P : Program) (s : TypeId) (f : Nat) : Option Nat :=
  match P.underlying s with
  | some (.struct fs) => match fs[f]? with
    | some ⟨_, t, off, _, _, _, _⟩ => match P.info? t with
      | some i => match Nat.beq i.size 0 with | true => none | false => some off
      | none => none
    | none => none
  | _ => none
theorem E6 (b o n:Nat):(⟨b,o,none⟩:Addr).add n=⟨b,o+n,none⟩:=by unfold Addr.add;split <;> simp_all
theorem Vm {s f off:Nat} {ad:Addr} (hf:M0 P s f=some off) (w:World):(Instr.fieldAt s (.pointer (some ad)) f).run P w= .ok (.pointer (some (ad.add off))) w:=by
 unfold M0 at hf
 split at hf
 ·rename_i fs hu
  split at hf
  ·rename_i t off' hfs
   split at hf
   ·rename_i i hi
    split at hf
    ·cases hf
    ·rename_i hb
     cases hf
     have:i.size≠0:=Nat.ne_of_beq_eq_false hb
     simp [Instr.fieldAt,run_underlying hu,hfs,Instr.sureAddr,fieldPlace,sizeOf,typeInfo,hi,this]
   ·cases hf
  ·cases hf
 ·cases hf
theorem Lf {x:Operand} {s f off b:Nat} (hx:ev E x=some (.pointer (some ⟨b,0,none⟩))) (hf:M0 P s f=some off):BB cl P ⟨d,.fieldAddr s x f,ty,pos,af,g⟩ E hp (.pointer (some ⟨b,off,none⟩)):=
 .of_pure fun n a ho w'=>by simp [execOp,ho.eval hx,Vm hf w',E6]
theorem Lh {x:Operand} {s f off b o:Nat} (hx:ev E x=some (.pointer (some ⟨b,o,none⟩))) (hf:M0 P s f=some off):BB cl P ⟨d,.fieldAddr s x f,ty,pos,af,g⟩ E hp (.pointer (some ⟨b,o+off,none⟩)):=
 .of_pure fun n a ho w'=>by simp [execOp,ho.eval hx,Vm hf w',E6]
def Iv (P : Program) (t : TypeId) : Option Nat :=
  match P.underlying t with
  | some (.slice e) => match P.info? e with
    | some { size := s, .. } => some s
    | none => none
  | _ => none
def K3 (P : Program) (t : TypeId) : Option (Nat × Nat) :=
  match P.underlying t with
  | some (.array n e) => match P.info? e with
    | some { size := s, .. } => some (n, s)
    | none => none
  | _ => none
theorem MK {P:Program} {t sz:Nat} (h:Iv P t=some sz):∃e i,P.underlying t=some (.slice e)∧P.info? e=some i∧i.size=sz:=by
 unfold Iv at h
 split at h
 ·rename_i e hu
  split at h
  ·rename_i hi;cases h;exact ⟨e,_,hu,hi,rfl⟩
  ·cases h
 ·cases h
theorem Xx {P:Program} {t n sz:Nat} (h:K3 P t=some (n,sz)):∃e i,P.underlying t=some (.array n e)∧P.info? e=some i∧i.size=sz:=by
 unfold K3 at h
 split at h
 ·rename_i e hu
  split at h
  ·rename_i hi;cases h;exact ⟨_,_,hu,hi,rfl⟩
  ·cases h
 ·cases h
theorem Bp {x y:Operand} {t sz b o n c:Nat} {k:IntKind} {i:Nat} (hx:ev E x=some (.slice (some ⟨b,o,none⟩) n c)) (hy:ev E y=some (.int k (i:Int))) (ht:Iv P t=some sz) (hi:i<n):
  BB cl P ⟨d,.indexAddr t x y,ty,pos,af,g⟩ E hp (.pointer (some ⟨b,o+i*sz,none⟩)):=
 .of_pure fun _ a ho w'=>by
  obtain ⟨e,ii,hu,hii,rfl⟩:=MK ht
  simp [execOp,ho.eval hx,ho.eval hy,Instr.indexAt,asIntOf,run_underlying hu,sizeOf,typeInfo,hii,E6,hi]
theorem C0 {x y:Operand} {t b o n c:Nat} {k:IntKind} {i:Nat} (hx:ev E x=some (.slice (some ⟨b,o,none⟩) n c)) (hy:ev E y=some (.int k (i:Int))) (ht:Iv P t=some 1) (hi:i<n):
  BB cl P ⟨d,.indexAddr t x y,ty,pos,af,g⟩ E hp (.pointer (some ⟨b,o+i,none⟩)):=by
 have:=Bp (cl:=cl) (hp:=hp) (d:=d) (ty:=ty) (pos:=pos) (af:=af) (g:=g) hx hy ht hi
 rwa [Nat.mul_one]at this
theorem FQ {x y:Operand} {t sz b o len:Nat} {k:IntKind} {i:Nat} (hx:ev E x=some (.pointer (some ⟨b,o,none⟩))) (hy:ev E y=some (.int k (i:Int))) (ht:K3 P t=some (len,sz)) (hi:i<len):
  BB cl P ⟨d,.indexAddr t x y,ty,pos,af,g⟩ E hp (.pointer (some ⟨b,o+i*sz,none⟩)):=
 .of_pure fun _ a ho w'=>by
  obtain ⟨e,ii,hu,hii,rfl⟩:=Xx ht
  simp [execOp,ho.eval hx,ho.eval hy,Instr.indexAt,asIntOf,run_underlying hu,sizeOf,typeInfo,hii,E6,hi,Instr.sureAddr]
theorem F6 {x y:Operand} {t b len:Nat} {k:IntKind} {i:Nat} (hx:ev E x=some (.pointer (some ⟨b,0,none⟩))) (hy:ev E y=some (.int k (i:Int))) (ht:K3 P t=some (len,1)) (hi:i<len):
  BB cl P ⟨d,.indexAddr t x y,ty,pos,af,g⟩ E hp (.pointer (some ⟨b,i,none⟩)):=by
 have:=FQ (cl:=cl) (hp:=hp) (d:=d) (ty:=ty) (pos:=pos) (af:=af) (g:=g) hx hy ht hi
 rwa [Nat.mul_one,Nat.zero_add]at this
def D6 (P : Program) (t : TypeId) : Bool :=
  match P.underlying t with
  | some (.struct _) => false
  | some (.array _ _) => false
  | some _ => match P.info? t with
    | some i => Nat.beq i.size 1
    | none => false
  | none => false
def Dx (P : Program) (t : TypeId) : Option Nat :=
  match P.underlying t with
  | some (.struct _) => match P.info? t with
    | some { size := s, .. } => some s
    | none => none
  | some (.array _ _) => match P.info? t with
    | some { size := s, .. } => some s
    | none => none
  | _ => none
theorem N2 {t:TypeId} (h:D6 P t=true) (w:World):(isAgg t).run P w= .ok false w:=by
 unfold D6 at h
 split at h
 ·cases h
 ·cases h
 ·rename_i dd hn1 hn2 hu
  unfold isAgg
  simp only [Sem.run_bind,run_underlying hu,Result.andThen_ok]
  cases dd <;> first | rfl | (exfalso;first | exact hn1 _ hu | exact hn2 _ _ hu | simp_all)
 ·cases h
theorem Vr {t:TypeId} (h:D6 P t=true) (w:World):(sizeOf t).run P w= .ok 1 w:=by
 unfold D6 at h
 split at h
 ·cases h
 ·cases h
 ·split at h
  ·rename_i i hi
   have:=Nat.eq_of_beq_eq_true h
   simp [sizeOf,typeInfo,hi,this]
  ·cases h
 ·cases h
theorem Vq {m:Mode} {a:Addr} {v:Value} {w:World} (h:Az w.heap a=some v):(Go.load a m).run P w= .ok v w:=by
 have:w.cell? a=some v:=h
 simp [Go.load,Sem.run,this]
theorem Vp {t:TypeId} {a:Addr} {v:Value} {w:World} (ht:D6 P t=true) (h:Az w.heap a=some v):(loadVar t a).run P w= .ok v w:=by
 unfold loadVar
 simp only [Sem.run_bind,N2 ht,Result.andThen_ok,Bool.false_eq_true,if_false]
 exact Vq h
theorem cB {x:Operand} {t:TypeId} {ad:Addr} {v:Value} (hx:ev E x=some (.pointer (some ad))) (ht:D6 P t=true) (hc:Az hp ad=some v):BB .load P ⟨d,.load t x,ty,pos,af,g⟩ E hp v:=
 fun n a ho w' hx'=>by simp [execOp,ho.eval hx,Instr.loadAt,Instr.sureAddr,Vp ht (Bz hx' hc)]
theorem QZ {b o:Nat} {w:World}:∀ (n i:Nat) (vs:List Value) (acc:Array Value),vs.length=n→(∀j u,vs[j]? =some u→Az w.heap ⟨b,o+(i+j),none⟩=some u)→
  (loadCellsFrom ⟨b,o,none⟩ i n acc).run P w= .ok (acc++vs.toArray) w
 | 0,i,vs,acc,hl,_=>by
  obtain rfl:vs=[]:=List.eq_nil_of_length_eq_zero hl
  simp [loadCellsFrom]
 | n+1,i,[],acc,hl,_=>by simp at hl
 | n+1,i,v::vs,acc,hl,hc=>by
  have h0:=hc 0 v rfl
  simp only [Nat.add_zero]at h0
  unfold loadCellsFrom
  simp only [Sem.run_bind,E6,Vq h0,Result.andThen_ok]
  rw [QZ n (i+1) vs (acc.push v) (by simpa using hl) (fun j u hu=>by
   have:=hc (j+1) u (by simpa using hu)
   rw [show i+1+j=i+(j+1) by omega];exact this)]
  simp
theorem Vo {t b o n:Nat} {vs:List Value} {w:World} (ht:Dx P t=some n) (hl:vs.length=n) (hc:∀j u,vs[j]? =some u→Az w.heap ⟨b,o+j,none⟩=some u):
  (loadVar t ⟨b,o,none⟩).run P w= .ok (.agg vs.toArray) w:=by
 have hrow:=QZ (P:=P) (w:=w) (b:=b) (o:=o) n 0 vs #[] hl (by simpa using hc)
 unfold Dx at ht
 have key:∀dd i,P.underlying t=some dd→P.info? t=some i→i.size=n→(match dd with | .struct _ | .array _ _=>true | _=>false)=true→(loadVar t ⟨b,o,none⟩).run P w= .ok (.agg vs.toArray) w:=by
  intro dd i hu hi hs hd
  have hagg:(isAgg t).run P w= .ok true w:=by
   unfold isAgg
   simp only [Sem.run_bind,run_underlying hu,Result.andThen_ok]
   cases dd <;> first | rfl | cases hd
  unfold loadVar
  simp only [Sem.run_bind,hagg,Result.andThen_ok,if_true,sizeOf,typeInfo]
  simp [hi,hs,loadCells,hrow]
 split at ht
 ·rename_i fs hu
  split at ht
  ·rename_i hi;cases ht;exact key _ _ hu hi rfl rfl
  ·cases ht
 ·rename_i n' e hu
  split at ht
  ·rename_i hi;cases ht;exact key _ _ hu hi rfl rfl
  ·cases ht
 ·cases ht
theorem cC {x:Operand} {t b o n:Nat} {vs:List Value} (hx:ev E x=some (.pointer (some ⟨b,o,none⟩))) (ht:Dx P t=some n) (hl:vs.length=n) (hc:∀j u,vs[j]? =some u→Az hp ⟨b,o+j,none⟩=some u):
  BB .load P ⟨d,.load t x,ty,pos,af,g⟩ E hp (.agg vs.toArray):=
 fun n a ho w' hx'=>by simp [execOp,ho.eval hx,Instr.loadAt,Instr.sureAddr,Vo ht hl (fun j u hu=>Bz hx' (hc j u hu))]
section
variable {x y:Operand} {t t':TypeId} {k:IntKind} {a b:Int}
theorem IE (hx:ev E x=some (.int k a)) (hy:ev E y=some (.int k b)):BB cl P ⟨d,.binOp .add t x y t',ty,pos,af,g⟩ E hp (.int k (k.wrap (a+b))):=
 .of_pure fun n a ho w'=>by simp [execOp,ho.eval hx,ho.eval hy,eqGuard,binOp,Op.intArith]
theorem II (hx:ev E x=some (.int k a)) (hy:ev E y=some (.int k b)):BB cl P ⟨d,.binOp .sub t x y t',ty,pos,af,g⟩ E hp (.int k (k.wrap (a-b))):=
 .of_pure fun n a ho w'=>by simp [execOp,ho.eval hx,ho.eval hy,eqGuard,binOp,Op.intArith]
theorem F7 (hx:ev E x=some (.int k a)) (hy:ev E y=some (.int k b)):BB cl P ⟨d,.binOp .mul t x y t',ty,pos,af,g⟩ E hp (.int k (k.wrap (a*b))):=
 .of_pure fun n a ho w'=>by simp [execOp,ho.eval hx,ho.eval hy,eqGuard,binOp,Op.intArith]
theorem Nc (hx:ev E x=some (.int k a)) (hy:ev E y=some (.int k b)) (hb:b≠0):BB cl P ⟨d,.binOp .quo t x y t',ty,pos,af,g⟩ E hp (.int k (k.wrap (a.tdiv b))):=
 .of_pure fun n a ho w'=>by simp [execOp,ho.eval hx,ho.eval hy,eqGuard,binOp,Op.intDiv,hb]
theorem Nf (hx:ev E x=some (.int k a)) (hy:ev E y=some (.int k b)) (hb:b≠0):BB cl P ⟨d,.binOp .rem t x y t',ty,pos,af,g⟩ E hp (.int k (a.tmod b)):=
 .of_pure fun n a ho w'=>by simp [execOp,ho.eval hx,ho.eval hy,eqGuard,binOp,Op.intDiv,hb]
def Hz (op:BinOp) (k:IntKind) (a b:Int):Int:=
  let x:=BitVec.ofInt k.bits a
  let y:=BitVec.ofInt k.bits b
  match op with
  | .and=>k.wrap (x&&& y).toNat
  | .or=>k.wrap (x||| y).toNat
  | .xor=>k.wrap (x^^^y).toNat
  | _=>k.wrap (x&&& ~~~y).toNat
theorem IG (hx:ev E x=some (.int k a)) (hy:ev E y=some (.int k b)):BB cl P ⟨d,.binOp .and t x y t',ty,pos,af,g⟩ E hp (.int k (Hz .and k a b)):=
 .of_pure fun n a ho w'=>by simp [execOp,ho.eval hx,ho.eval hy,eqGuard,binOp,Op.intBits,Hz]
theorem Nb (hx:ev E x=some (.int k a)) (hy:ev E y=some (.int k b)):BB cl P ⟨d,.binOp .or t x y t',ty,pos,af,g⟩ E hp (.int k (Hz .or k a b)):=
 .of_pure fun n a ho w'=>by simp [execOp,ho.eval hx,ho.eval hy,eqGuard,binOp,Op.intBits,Hz]
theorem Nj (hx:ev E x=some (.int k a)) (hy:ev E y=some (.int k b)):BB cl P ⟨d,.binOp .xor t x y t',ty,pos,af,g⟩ E hp (.int k (Hz .xor k a b)):=
 .of_pure fun n a ho w'=>by simp [execOp,ho.eval hx,ho.eval hy,eqGuard,binOp,Op.intBits,Hz]
theorem UZ {k':IntKind} (hx:ev E x=some (.int k a)) (hy:ev E y=some (.int k' b)) (hb:0≤b):BB cl P ⟨d,.binOp .shl t x y t',ty,pos,af,g⟩ E hp (.int k (k.wrap (a*2^(min b.toNat k.bits)))):=
 .of_pure fun n a ho w'=>by simp [execOp,ho.eval hx,ho.eval hy,eqGuard,binOp,Op.shift,Int.not_lt.mpr hb]
theorem Ni {k':IntKind} (hx:ev E x=some (.int k a)) (hy:ev E y=some (.int k' b)) (hb:0≤b):BB cl P ⟨d,.binOp .shr t x y t',ty,pos,af,g⟩ E hp (.int k (a.fdiv (2^(min b.toNat k.bits)))):=
 .of_pure fun n a ho w'=>by simp [execOp,ho.eval hx,ho.eval hy,eqGuard,binOp,Op.shift,Int.not_lt.mpr hb]
theorem In (hx:ev E x=some (.int k a)) (hy:ev E y=some (.int k b)):BB cl P ⟨d,.binOp .eql t x y t',ty,pos,af,g⟩ E hp (.bool (decide (a=b))):=
 .of_pure fun n a ho w'=>by simp [execOp,ho.eval hx,ho.eval hy,eqGuard,binOp,Op.intCmp];rfl
theorem Lr (hx:ev E x=some (.int k a)) (hy:ev E y=some (.int k b)):BB cl P ⟨d,.binOp .neq t x y t',ty,pos,af,g⟩ E hp (.bool (decide (a≠b))):=
 .of_pure fun n a ho w'=>by simp [execOp,ho.eval hx,ho.eval hy,eqGuard,binOp,Op.intCmp];rfl
theorem Ln (hx:ev E x=some (.int k a)) (hy:ev E y=some (.int k b)):BB cl P ⟨d,.binOp .lss t x y t',ty,pos,af,g⟩ E hp (.bool (decide (a<b))):=
 .of_pure fun n a ho w'=>by simp [execOp,ho.eval hx,ho.eval hy,eqGuard,binOp,Op.intCmp]
theorem Lm (hx:ev E x=some (.int k a)) (hy:ev E y=some (.int k b)):BB cl P ⟨d,.binOp .leq t x y t',ty,pos,af,g⟩ E hp (.bool (decide (a≤b))):=
 .of_pure fun n a ho w'=>by simp [execOp,ho.eval hx,ho.eval hy,eqGuard,binOp,Op.intCmp]
theorem KV (hx:ev E x=some (.int k a)) (hy:ev E y=some (.int k b)):BB cl P ⟨d,.binOp .gtr t x y t',ty,pos,af,g⟩ E hp (.bool (decide (b<a))):=
 .of_pure fun n a ho w'=>by simp [execOp,ho.eval hx,ho.eval hy,eqGuard,binOp,Op.intCmp]
theorem Li (hx:ev E x=some (.int k a)) (hy:ev E y=some (.int k b)):BB cl P ⟨d,.binOp .geq t x y t',ty,pos,af,g⟩ E hp (.bool (decide (b≤a))):=
 .of_pure fun n a ho w'=>by simp [execOp,ho.eval hx,ho.eval hy,eqGuard,binOp,Op.intCmp]
theorem bN (a b:Int):Builtin.min2 (.int k a) (.int k b)=pure (.int k (min a b)):=by
 simp only [Builtin.min2,Int.min_def]
 congr 2
 split <;> split <;> omega
theorem bF (a b:Int):Builtin.max2 (.int k a) (.int k b)=pure (.int k (max a b)):=by
 simp only [Builtin.max2,Int.max_def]
 congr 2
 split <;> split <;> omega
theorem Lp (hx:ev E x=some (.int k a)) (hy:ev E y=some (.int k b)) {ts:Array TypeId}:BB cl P ⟨d,.call ⟨.builtin .min,#[x,y],ts⟩,ty,pos,af,g⟩ E hp (.int k (min a b)):=
 .of_pure fun n a' ho w'=>by
  simp [execOp,resolve,ho.eval hx,ho.eval hy,invoke,builtin,Builtin.min_,bN]
theorem Lo (hx:ev E x=some (.int k a)) (hy:ev E y=some (.int k b)) {ts:Array TypeId}:BB cl P ⟨d,.call ⟨.builtin .max,#[x,y],ts⟩,ty,pos,af,g⟩ E hp (.int k (max a b)):=
 .of_pure fun n a' ho w'=>by
  simp [execOp,resolve,ho.eval hx,ho.eval hy,invoke,builtin,Builtin.max_,bF]
end
end
theorem XV {c:Cx} {cs:CF} {ops:Array Oper} {k:List DW} {E:Au} {hp:AA} {i:Nat} {d:Tmp} {x:Operand} {ty:TypeId} {pos:String} {af:Array Edge} {g:Option (Nat×Bool)} {rest:List (Nat×Oper)} {v:Value} (hx:ev E x=some v) (hf:Nat.blt d c.fn.ntmps=true) (hw:Dv ops E ⟨some d,.move x,ty,pos,af,g⟩=some true) (h:XR c cs ops rest k ((d,v)::E) hp):XR c cs ops ((i,⟨some d,.move x,ty,pos,af,g⟩)::rest) k E hp:=AD (DZ hx) hf hw h
theorem XA {c:Cx} {cs:CF} {ops:Array Oper} {k:List DW} {E:Au} {hp:AA} {i:Nat} {d:Tmp} {x:Operand} {ty:TypeId} {pos:String} {af:Array Edge} {g:Option (Nat×Bool)} {rest:List (Nat×Oper)} {v:Value} (hx:ev E x=some v) (hf:Nat.blt d c.fn.ntmps=true) (hw:Dv ops E ⟨some d,.assign x,ty,pos,af,g⟩=some true) (h:XR c cs ops rest k ((d,v)::E) hp):XR c cs ops ((i,⟨some d,.assign x,ty,pos,af,g⟩)::rest) k E hp:=AD (Cm hx) hf hw h
end Go.Bn
end

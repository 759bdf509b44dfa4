/- Packed texts of a claim: what its theorem uses, joined. -/
import Derived.Laws.Tables
import Derived.Laws.StructEq
import Derived.Test.YtcakpngelbhkfaaGreatDoorPkTopBetween1
set_option maxRecDepth 100000
set_option maxHeartbeats 4000000
set_option linter.unusedVariables false
set_option linter.unusedSimpArgs false
set_option linter.unusedSectionVars false
set_option linter.defProp false
section
namespace Go.Bn
open Go
def AN (b:UInt8):Value:= .int .u8 (b.toNat:Int)
def str (l:List UInt8):ByteArray:=⟨l.toArray⟩
theorem HO (l:List UInt8):(str l).size=l.length:=by simp [str,ByteArray.size]
theorem fS (l:List UInt8):(str l).data=l.toArray:=rfl
theorem Ki (l:List UInt8):(str l).toList=l:=by
 have h:∀ (b:ByteArray),b.toList=b.data.toList:=fun b=>by
  have key:∀ (n i:Nat) (acc:List UInt8),b.size-i=n→ByteArray.toList.loop b i acc=acc.reverse++b.data.toList.drop i:=by
   intro n
   induction n with
   | zero=>
    intro i acc hn
    unfold ByteArray.toList.loop
    have hlen:b.data.toList.length=b.size:=by rw [Array.length_toList];rfl
    rw [if_neg (by omega),List.drop_eq_nil_of_le (by omega)];simp
   | succ n ih=>
    intro i acc hn
    have hi:i<b.size:=by omega
    have hlen:b.data.toList.length=b.size:=by rw [Array.length_toList];rfl
    unfold ByteArray.toList.loop
    rw [if_pos hi,ih (i+1) _ (by omega)]
    rw [List.drop_eq_getElem_cons (show i<b.data.toList.length by omega)]
    simp only [List.reverse_cons,List.append_assoc,List.singleton_append]
    congr 2
    rw [Array.getElem_toList]
    have hg:b.get! i=b.data[i]! :=rfl
    rw [hg]
    exact getElem!_pos b.data i hi
  have:=key b.size 0 [] rfl
  simpa [ByteArray.toList]using this
 rw [h];simp [str]
theorem fT {l m:List UInt8}:str l=str m↔l=m:=⟨fun h=>by rw [←Ki l,h,Ki],fun h=>by rw [h]⟩
theorem fR (l m:List UInt8):str l++str m=str (l++m):=by
 apply ByteArray.ext
 simp [str,ByteArray.data_append]
section
variable {P:Program} {E:Au} {hp:AA} {cl:Ca} {d:Option Tmp} {ty:TypeId} {pos:String} {af:Array Edge} {g:Option (Nat×Bool)}
variable {x y:Operand} {t t':TypeId}
theorem Bm {b:Bool} (hx:ev E x=some (.bool b)):BB cl P ⟨d,.unOp .not t x,ty,pos,af,g⟩ E hp (.bool (!b)):=
 .of_pure fun n a ho w'=>by simp [execOp,ho.eval hx,Op.unary]
theorem Jg {p:Prop} [Decidable p] (hx:ev E x=some (.bool (decide p))):BB cl P ⟨d,.unOp .not t x,ty,pos,af,g⟩ E hp (.bool (decide ¬p)):=
 .of_pure fun n a ho w'=>by simp [execOp,ho.eval hx,Op.unary]
theorem Rr (a b:List UInt8):(a==b)=decide (a=b):=by rw [Bool.eq_iff_iff];simp
theorem GS {a b:List UInt8} (hx:ev E x=some (.string (str a))) (hy:ev E y=some (.string (str b))):BB cl P ⟨d,.binOp .eql t x y t',ty,pos,af,g⟩ E hp (.bool (decide (a=b))):=
 .of_pure fun n a' ho w'=>by simp [execOp,ho.eval hx,ho.eval hy,eqGuard,binOp,Op.stringOp,Ki,Rr]
theorem F9 {a b:List UInt8} (hx:ev E x=some (.string (str a))) (hy:ev E y=some (.string (str b))):BB cl P ⟨d,.binOp .neq t x y t',ty,pos,af,g⟩ E hp (.bool (decide (a≠b))):=
 .of_pure fun n a' ho w'=>by simp [execOp,ho.eval hx,ho.eval hy,eqGuard,binOp,Op.stringOp,Ki,Rr]
theorem Lc {a b:List UInt8} (hx:ev E x=some (.string (str a))) (hy:ev E y=some (.string (str b))) (hl:a.length+b.length≤9223372036854775807):BB cl P ⟨d,.binOp .add t x y t',ty,pos,af,g⟩ E hp (.string (str (a++b))):=
 .of_pure fun n a' ho w'=>by
  have h1:¬ (((str a).size+(str b).size:Nat):Int)>IntKind.i64.max:=by
   rw [HO,HO,show IntKind.i64.max=9223372036854775807 from rfl];omega
  simp only [execOp,ho.eval hx,ho.eval hy,eqGuard,binOp,Op.stringOp]
  rw [if_neg h1]
  simp [fR]
theorem VP {e:TypeId} (hu:P.underlying t=some (.pointer e)):P.underlying t=some (.pointer (P.pointee t)):=by
 rw [hu];simp [Program.pointee,hu]
theorem Lt {p:Option Addr} {e:TypeId} (hx:ev E x=some (.pointer p)) (hy:ev E y=some (.pointer none)) (hu:P.underlying t=some (.pointer e)):BB cl P ⟨d,.binOp .eql t x y t',ty,pos,af,g⟩ E hp (.bool p.isNone):=
 .of_pure fun n a' ho w'=>by
  simp only [execOp,ho.eval hx,ho.eval hy,eqGuard]
  simp [run_eql_pointer_nil w' t p (VP hu)]
theorem Lu {p:Option Addr} {e:TypeId} (hx:ev E x=some (.pointer p)) (hy:ev E y=some (.pointer none)) (hu:P.underlying t=some (.pointer e)):BB cl P ⟨d,.binOp .neq t x y t',ty,pos,af,g⟩ E hp (.bool (!p.isNone)):=
 .of_pure fun n a' ho w'=>by
  simp only [execOp,ho.eval hx,ho.eval hy,eqGuard]
  simp [run_neq_pointer_nil w' t p (VP hu)]
def Ms (P:Program) (src dst:TypeId):Option IntKind:=
  match P.underlying src,P.underlying dst with
  | some _,some (.int k)=>some k
  | _,_=>none
theorem Dm {k k':IntKind} {a:Int} (hx:ev E x=some (.int k a)) (hc:Ms P t t'=some k'):BB cl P ⟨d,.convert t t' x,ty,pos,af,g⟩ E hp (.int k' (k'.wrap a)):=
 .of_pure fun n a ho w'=>by
  unfold Ms at hc
  split at hc
  ·rename_i h1 h2
   cases hc
   simp [execOp,ho.eval hx,convert,run_underlying h1,run_underlying h2,Conv.intToInt]
  ·cases hc
def KL (P:Program) (t:TypeId):Bool:=match P.underlying t with | some (.slice _)=>true | _=>false
def Ed (P:Program) (t:TypeId):Bool:=match P.underlying t with | some .string=>true | _=>false
theorem Lk {A:Option Addr} {n c:Nat} (hx:ev E x=some (.slice A n c)) (ht:KL P t=true) {ts:Array TypeId} (hts:ts= #[t]):BB cl P ⟨d,.call ⟨.builtin .len,#[x],ts⟩,ty,pos,af,g⟩ E hp (.int .i64 (n:Int)):=
 .of_pure fun n a ho w'=>by
  subst hts
  unfold KL at ht
  split at ht
  ·rename_i h;simp [execOp,resolve,ho.eval hx,invoke,builtin,Builtin.len_,run_underlying h,goInt]
  ·cases ht
theorem Ll {s:List UInt8} (hx:ev E x=some (.string (str s))) (ht:Ed P t=true) {ts:Array TypeId} (hts:ts= #[t]):BB cl P ⟨d,.call ⟨.builtin .len,#[x],ts⟩,ty,pos,af,g⟩ E hp (.int .i64 (s.length:Int)):=
 .of_pure fun n a ho w'=>by
  subst hts
  unfold Ed at ht
  split at ht
  ·rename_i h;simp [execOp,resolve,ho.eval hx,invoke,builtin,Builtin.len_,run_underlying h,goInt,HO]
  ·cases ht
def Value.one:Value→Bool
  | .agg _=>false
  | .tuple _=>false
  | _=>true
theorem Vt {m:Mode} {a:Addr} {v u:Value} {w:World} (h1:Value.one v=true) (h:Az w.heap a=some u) (hf:Ih w.heap a=false):(Go.store a v m).run P w= .ok () (w.setCell a v):=by
 have h':w.cell? a=some u:=h
 have hf':w.frozen? a=false:=hf
 cases v <;> first | (cases h1;done) | simp [Go.store,Sem.run,h',hf']
theorem Value.one_cells {v:Value} (h:Value.one v=true):v.cells= #[v]:=by cases v <;> first | rfl | (cases h;done)
theorem RX (a:Addr):a.add 0=a:=by simp [Addr.add]
theorem Uj {ad:Addr} {v u:Value} (hx:ev E x=some (.pointer (some ad))) (hy:ev E y=some v) (ht:D6 P t=true) (h1:Value.one v=true) (hc:Az hp ad=some u) (hf:Ih hp ad=false):
  Bd P ⟨d,.store t x y,ty,pos,af,g⟩ E hp (fun r hp'=>r=undef∧hp'=IR hp ad v):=by
 intro n a w ho hw K hK
 subst hw
 have hrun:(execOp a.eval ⟨d,.store t x y,ty,pos,af,g⟩).run P w= .ok .skip (w.setCell ad v):=by
  simp [execOp,ho.eval hx,ho.eval hy,Instr.storeAt,Instr.sureAddr,storeVar,Value.one_cells h1,Vr ht,storeCells,RX,Vt h1 hc hf]
 simp only [Oper.wp,hrun,Oper.upon]
 exact hK _ _ ⟨rfl,rfl,rfl⟩ ⟨rfl,rfl⟩
theorem IQ {p o:Nat} {e:TypeId} {fr:Nat×Nat}:∀ (vs:List Value) (i:Nat) (cur:Array Value) (w:World),(∀v∈vs,Value.one v=true)→w.heap[p]? =some (.cells cur e fr)→o+i+vs.length≤cur.size→Kl cur.size fr→
  ∃w',(storeCells ⟨p,o,none⟩ vs i).run P w= .ok () w'∧B8 w w'∧w'.heap.size=w.heap.size∧(∀k,k≠p→w'.heap[k]? =w.heap[k]?)∧
   w'.heap[p]? =some (.cells (cur.toList.take (o+i)++vs++cur.toList.drop (o+i+vs.length)).toArray e fr)
 | [],i,cur,w,_,hg,hl,hu=>⟨w,by simp [storeCells],B8.refl w,rfl,fun _ _=>rfl,by simpa using hg⟩
 | v::vs,i,cur,w,h1,hg,hl,hu=>by
  have hv:=h1 v List.mem_cons_self
  have hlt:o+i<cur.size:=by simp at hl;omega
  have hc:Az w.heap ⟨p,o+i,none⟩=some cur[o+i]:=by simp [Az,hg,hlt]
  have hf:Ih w.heap ⟨p,o+i,none⟩=false:=by
   have:=hu.free (o+i) hlt
   simp only [Ih,hg]
   simpa using this
  have hg':(w.setCell ⟨p,o+i,none⟩ v).heap[p]? =some (.cells (cur.setIfInBounds (o+i) v) e fr):=Qh v hg
  obtain ⟨w',hr,hi,hs,ho,hp'⟩:=IQ (o:=o) vs (i+1) (cur.setIfInBounds (o+i) v) (w.setCell ⟨p,o+i,none⟩ v) (fun u hu=>h1 u (List.mem_cons_of_mem _ hu)) hg' (by rw [Array.size_setIfInBounds];simp at hl;omega) (by simpa using hu)
  refine ⟨w',?_,⟨hi.os,hi.tape,hi.output⟩,?_,?_,?_⟩
  ·unfold storeCells
   simp only [Sem.run_bind,E6,Vt hv hc hf,Result.andThen_ok]
   exact hr
  ·rw [hs];exact Qi _ _ _
  ·intro k hk
   rw [ho k hk]
   exact Qg _ _ _ _ hk
  ·rw [hp']
   congr 3
   apply List.ext_getElem?
   intro j
   simp only [Array.toList_setIfInBounds,List.length_cons]
   rw [show o+(i+1)=o+i+1 by omega,show o+i+1+vs.length=o+i+(vs.length+1) by omega]
   have e1:(cur.toList.set (o+i) v).take (o+i+1)=cur.toList.take (o+i)++[v]:=by
    rw [List.take_succ_eq_append_getElem (by simpa using hlt)]
    rw [List.take_set,List.set_eq_of_length_le (by simp;omega)];simp
   have e2:(cur.toList.set (o+i) v).drop (o+i+(vs.length+1))=cur.toList.drop (o+i+(vs.length+1)):=by
    rw [List.drop_set];rw [if_pos (by omega)]
   rw [e1,e2]
   simp
def LP (P : Program) (t : TypeId) : Bool :=
  match P.underlying t with
  | some (.slice e) => match P.underlying e with
    | some (.int .u8) => true
    | _ => false
  | _ => false
theorem eH {A:Option Addr} {n c:Nat} {l:List UInt8} {w:World} (hl:l.length=n) (hr:Rd w.heap A (l.map AN)):(Conv.bytesToString (.slice A n c)).run P w= .ok (.string (str l)) w:=by
 have hfor:∀ (f:Value→ByteArray→Sem (ForInStep ByteArray)),(∀b s,f (AN b) s=pure (.yield (s.push b)))→∀ (l:List UInt8) (s:ByteArray) (w:World),
   (forIn (m:=Sem) (l.map AN).toArray s f).run P w= .ok (s++str l) w:=by
  intro f hf l
  induction l with
  | nil=>intro s w;simp [str];exact ByteArray.ext (by simp)
  | cons b l ih=>
   intro s w
   have:=ih (s.push b) w
   simp only [List.map_cons,List.forIn_toArray,List.forIn_cons]at this ⊢
   simp only [hf,Sem.run_bind,Sem.run_pure,Result.andThen_ok]
   rw [this]
   congr 1
   apply ByteArray.ext
   simp [str,ByteArray.data_append,ByteArray.data_push]
 cases A with
 | none=>
  have:l=[]:=by
   rcases hr with h | ⟨b,o,h,_⟩
   ·simpa using h
   ·cases h
  subst this
  simp [Conv.bytesToString,str];rfl
 | some a=>
  by_cases hn:l=[]
  ·subst hn
   simp at hl;subst hl
   simp [Conv.bytesToString,loadCells,loadCellsFrom,str];rfl
  ·rcases hr with h | ⟨b,o,h,hc⟩
   ·exact absurd (by simpa using h) hn
   ·cases h
    have hrow:=QZ (P:=P) (w:=w) (b:=b) (o:=o) n 0 (l.map AN) #[] (by simpa using hl) (by simpa using hc)
    simp only [Conv.bytesToString,loadCells,Sem.run_bind,hrow,Result.andThen_ok,Array.empty_append]
    rw [hfor _ (by intro b s;simp [AN]) l .empty w]
    simp
theorem cE {A:Option Addr} {n c:Nat} {l:List UInt8} (hx:ev E x=some (.slice A n c)) (ht:LP P t=true) (ht':Ed P t'=true) (hl:l.length=n) (hr:Rd hp A (l.map AN)):
  BB .load P ⟨d,.convert t t' x,ty,pos,af,g⟩ E hp (.string (str l)):=by
 intro m a ho w' hx'
 unfold LP at ht
 split at ht
 ·rename_i e hu
  split at ht
  ·rename_i hue
   unfold Ed at ht'
   split at ht'
   ·rename_i hu'
    have:=eH (P:=P) (c:=c) hl (hr.ext hx')
    simp [execOp,ho.eval hx,convert,run_underlying hu,run_underlying hue,run_underlying hu',this]
   ·cases ht'
  ·cases ht
 ·cases ht
theorem Fg (hp:AA) (o:Obj):AV hp (hp.push o):=⟨by simp,fun k hk=>by rw [Array.getElem?_push,if_neg (by omega)]⟩
theorem Jn (hp:AA) (o:Obj):(hp.push o)[hp.size]? =some o:=by simp
def MR (P:Program) (t:TypeId):Option (List Value):=
  match P.info? t with
  | some {zero:=some z,..}=>some z.cells.toList
  | _=>none
theorem eM {t:TypeId} {zs:List Value} (h:MR P t=some zs) (w:World):∃z,(zeroValue t).run P w= .ok z w∧z.cells=zs.toArray:=by
 unfold MR at h
 split at h
 ·rename_i z _ _ hi
  cases h
  exact ⟨z,by simp [zeroValue,typeInfo,hi],by simp⟩
 ·cases h
theorem Jt (e:TypeId) (cs:Array Value) (w:World):(newRow e cs).run P w= .ok ⟨w.heap.size,0,none⟩ (w.alloc (.cells cs e)):=rfl
theorem cF {zs:List Value} (hz:MR P t=some zs):Bd P ⟨d,.alloc t,ty,pos,af,g⟩ E hp (fun v hp'=>v= .pointer (some ⟨hp.size,0,none⟩)∧hp'=hp.push (.cells zs.toArray t)):=by
 intro n a w ho hw K hK
 subst hw
 obtain ⟨z,hr,hc⟩:=eM hz w
 have hrun:(execOp a.eval ⟨d,.alloc t,ty,pos,af,g⟩).run P w= .ok (.value (.pointer (some ⟨w.heap.size,0,none⟩))) (w.alloc (.cells zs.toArray t)):=by
  simp [execOp,Instr.alloc,hr,newVar,Jt,hc]
 simp only [Oper.wp,hrun,Oper.upon]
 exact hK _ _ ⟨rfl,rfl,rfl⟩ ⟨rfl,rfl⟩
theorem cI {v:Value} {cs:List Value} (hx:ev E x=some v) (hc:v.cells=cs.toArray):Bd P ⟨d,.box t x,ty,pos,af,g⟩ E hp (fun u hp'=>u= .pointer (some ⟨hp.size,0,none⟩)∧hp'=hp.push (.cells cs.toArray t)):=by
 intro n a w ho hw K hK
 subst hw
 have hrun:(execOp a.eval ⟨d,.box t x,ty,pos,af,g⟩).run P w= .ok (.value (.pointer (some ⟨w.heap.size,0,none⟩))) (w.alloc (.cells cs.toArray t)):=by
  simp [execOp,ho.eval hx,Instr.box,newVar,Jt,hc]
 simp only [Oper.wp,hrun,Oper.upon]
 exact hK _ _ ⟨rfl,rfl,rfl⟩ ⟨rfl,rfl⟩
def GQ (E : Au) : List (Nat × Operand) → Option (List (Nat × Value))
  | [] => some []
  | (i, x) :: r => match ev E x with
    | some v => match GQ E r with
      | some vs => some ((i, v) :: vs)
      | none => none
    | none => none
theorem OK.parts {n:Nat} {a:Act} (h:OK n E a):∀ {l:List (Nat×Operand)} {vs:List (Nat×Value)},GQ E l=some vs→l.map (fun p=>(p.1,a.eval p.2))=vs
 | [],vs,hx=>by simpa [GQ]using hx
 | (i,x)::r,vs,hx=>by
  simp only [GQ]at hx
  split at hx
  ·rename_i v hv
   split at hx
   ·rename_i us hu
    cases hx
    rw [List.map_cons,h.eval hv,h.parts hu]
   ·cases hx
  ·cases hx
def DA (P : Program) (t : TypeId) : Option (TypeId × Nat × Nat × List Value) :=
  match P.underlying t with
  | some (.slice e) => match P.info? e with
    | some { size := s, bytes := b, zero := some z, .. } => some (e, s, b, z.cells.toList)
    | _ => none
  | _ => none
theorem FW {e s b:Nat} {zs:List Value} (h:DA P t=some (e,s,b,zs)):∃ (i:TypeInfo) (z:Value),P.underlying t=some (.slice e)∧P.info? e=some i∧i.zero=some z∧i.size=s∧i.bytes=b∧z.cells=zs.toArray:=by
 unfold DA at h
 split at h
 ·rename_i e' hu
  split at h
  ·rename_i hi
   cases h
   exact ⟨_,_,hu,hi,rfl,rfl,rfl,by simp⟩
  ·cases h
 ·cases h
def Jv (len s:Nat) (zs:List Value) (parts:List (Nat×Value)):Option (Array Value):=
  Instr.fill (fun i=>some (i*s,s)) ((Array.range (len*s)).map (zs.toArray[· % zs.toArray.size]!)) parts
theorem Ly {e s b len:Nat} {zs:List Value} {parts:Array (Nat×Operand)} {ps:List (Nat×Value)} {cs:List Value} (hps:GQ E parts.toList=some ps) (ht:DA P t=some (e,s,b,zs))
  (hn:Nat.ble (len*s) 16777216=true) (hs:Nat.blt 0 (len*s)=true) (hc:Jv len s zs ps=some cs.toArray):
  Bd P ⟨d,.buildSlice t len parts,ty,pos,af,g⟩ E hp (fun v hp'=>v= .slice (some ⟨hp.size,0,none⟩) len len∧hp'=hp.push (.cells cs.toArray e)):=by
 intro n a w ho hw K hK
 subst hw
 obtain ⟨i,z,hu,hi,hz,hsz,_,hzc⟩:=FW ht
 have hp1:(parts.map fun (i,x)=>(i,a.eval x)).toList=ps:=by
  rw [Array.toList_map];exact ho.parts hps
 have hn':¬ (len*s>2^24):=by have:=Nat.le_of_ble_eq_true hn;omega
 have hs':¬ (len*s=0):=by
  have:0<len*s:=by simpa [Nat.blt_eq]using hs
  omega
 have hrun:(execOp a.eval ⟨d,.buildSlice t len parts,ty,pos,af,g⟩).run P w= .ok (.value (.slice (some ⟨w.heap.size,0,none⟩) len len)) (w.alloc (.cells cs.toArray e)):=by
  unfold Jv at hc
  simp only [execOp,Instr.buildSlice,Sem.run_bind,run_underlying hu,Result.andThen_ok,sizeOf,typeInfo,zeroValue,program,Sem.run,hi,hz,Sem.run_pure,hsz,if_neg hn',if_neg hs',hp1,hzc,hc,Jt]
 simp only [Oper.wp,hrun,Oper.upon]
 exact hK _ _ ⟨rfl,rfl,rfl⟩ ⟨rfl,rfl⟩
theorem cN {e s b:Nat} {zs:List Value} {n:Nat} {k:IntKind} (hx:ev E x=some (.int k (n:Int))) (ht:DA P t=some (e,s,b,zs)) (hb:Nat.blt 0 b=true) (hn:n*b≤140737488355328):
  Bd P ⟨d,.makeSlice t x x,ty,pos,af,g⟩ E hp (fun v hp'=>v= .slice (some ⟨hp.size,0,none⟩) n n∧hp'=hp.push (.cells ((Array.range (n*s)).map (zs.toArray[· % zs.toArray.size]!)) e)):=by
 intro m a w ho hw K hK
 subst hw
 obtain ⟨i,z,hu,hi,hz,hsz,hbz,hzc⟩:=FW ht
 have hb':0<b:=by simpa [Nat.blt_eq]using hb
 have hn1:n≤140737488355328:=Nat.le_trans (Nat.le_mul_of_pos_right _ hb') hn
 have hwr:IntKind.i64.wrap (n:Int)=n:=IntWalk.i64_in _ (by omega)
 have h1:¬ ((n:Int)<0):=by omega
 have h2:¬ ((b:Int)*(n:Int)>281474976710656):=by
  rw [←Int.natCast_mul,Nat.mul_comm]
  omega
 have hrun:(execOp a.eval ⟨d,.makeSlice t x x,ty,pos,af,g⟩).run P w= .ok (.value (.slice (some ⟨w.heap.size,0,none⟩) n n)) (w.alloc (.cells ((Array.range (n*s)).map (zs.toArray[· % zs.toArray.size]!)) e)):=by
  by_cases h0:n*s=0
  ·simp [execOp,ho.eval hx,Instr.makeSlice,run_underlying hu,asInt,asIntOf,typeInfo,hi,hbz,hwr,h1,h2,askRoom,roomBytes,sizeOf,hsz,h0,Jt]
   exact congrArg (fun x=>w.alloc (.cells x e)) (Array.ext (by simp) (fun i h1 _=>absurd h1 (by simp)))
  ·simp [execOp,ho.eval hx,Instr.makeSlice,run_underlying hu,asInt,asIntOf,typeInfo,hi,hbz,hwr,h1,h2,askRoom,roomBytes,sizeOf,hsz,h0,zeroValue,hz,hzc,Jt]
 simp only [Oper.wp,hrun,Oper.upon]
 exact hK _ _ ⟨rfl,rfl,rfl⟩ ⟨rfl,rfl⟩
end
end Go.Bn
end

section
namespace Go.Bn
open Go
section
variable {P:Program} {E:Au} {hp:AA} {cl:Ca} {d:Option Tmp} {ty:TypeId} {pos:String} {af:Array Edge} {g:Option (Nat×Bool)}
variable {x y:Operand} {t t':TypeId}
def EB (P:Program) (f:FuncId):Bool:=
  match P.funcs[f]? with
  | some fn=> !(fn.name== "runtime.NumGoroutine")&&fn.body.isSome
  | none=>false
theorem CT {f:FuncId} {args:Array Operand} {ts:Array TypeId} {vs:List Value} {Φ:Value→AA→Prop} (h:AG P f vs hp Φ) (hargs:HG E args.toList=some vs) (hc:EB P f=true):
  Bd P ⟨d,.call ⟨.value (.func f),args,ts⟩,ty,pos,af,g⟩ E hp Φ:=by
 intro n a w ho hw K hK
 unfold EB at hc
 split at hc
 ·rename_i fn hfn
  simp only [Bool.and_eq_true,Bool.not_eq_true']at hc
  obtain ⟨hn,hb⟩:=hc
  have hn':¬ (fn.name= "runtime.NumGoroutine"):=by simpa using hn
  have hb':¬ (fn.body=none):=by intro h;rw [h]at hb;cases hb
  have ha:args.map a.eval=vs.toArray:=by
   apply Array.toList_inj.1
   rw [Array.toList_map,ho.evals hargs]
  have hrun:(execOp a.eval ⟨d,.call ⟨.value (.func f),args,ts⟩,ty,pos,af,g⟩).run P w= .ok (.enter f vs.toArray) w:=by
   simp [execOp,resolve,Act.eval,Deferred.ofValue,invoke,callFunc,hfn,hn',hb',ha]
  simp only [Oper.wp,hrun,Oper.upon]
  refine (h w hw).mono ?_
  rintro e w' ⟨v,rfl,hi,hΦ⟩
  exact hK v w' hi hΦ
 ·cases hc
def Eb (A:Option Addr) (l sz m:Nat):Option Addr:=if m=l then A else A.map fun a=>a.add (l*sz)
theorem Rd.cut {A:Option Addr} {vs:List Value} (h:Rd hp A vs) (l sz m n:Nat) (hm:m=l→vs.length≤l*sz):Rd hp (Eb A l sz m) ((vs.drop (l*sz)).take n):=by
 refine Rd.take ?_ n
 unfold Eb
 split
 ·rename_i he
  rw [List.drop_eq_nil_of_le (hm he)];exact .inl rfl
 ·rcases h with rfl | ⟨b,o,hA,hc⟩
  ·exact .inl (by simp)
  ·refine .inr ⟨b,o+l*sz,by rw [hA];simp [E6],fun i u hu=> ?_⟩
   rw [List.getElem?_drop]at hu
   rw [Nat.add_assoc];exact hc _ u hu
theorem Qa {e sz l h n c:Nat} {A:Option Addr} {i:TypeInfo} {lo hi:Option Value} (hu:P.underlying t=some (.slice e)) (hi':P.info? e=some i) (hs:i.size=sz)
  (hlo:(lo=none∧l=0)∨∃k,lo=some (.int k (l:Int))) (hhi:(hi=none∧h=n)∨∃k,hi=some (.int k (h:Int))) (hlh:l≤h) (hhc:h≤c) (w:World):
  (Instr.sliceAt t (.slice A n c) lo hi none).run P w= .ok (.slice (Eb A l sz c) (h-l) (c-l)) w:=by
 have hlc:(l:Int)≤(h:Int):=by omega
 have hhc':(h:Int)≤(c:Int):=by omega
 have e1:(Instr.sliceAt t (.slice A n c) lo hi none).run P w=(Instr.slice t (.slice A n c) lo hi none).run P w:=by
  simp [Instr.sliceAt,run_underlying hu]
 rw [e1]
 rcases hlo with ⟨rfl,rfl⟩ | ⟨k,rfl⟩ <;> rcases hhi with ⟨rfl,rfl⟩ | ⟨k',rfl⟩ <;>
  simp [Instr.slice,run_underlying hu,Instr.sliceBounds,Instr.sliceBound,asIntOf,sizeOf,typeInfo,hi',hs,Eb,hlh,hhc]
theorem Jh {lo hi:Operand} {sz l h n c:Nat} {k k':IntKind} {A:Option Addr} (hx:ev E x=some (.slice A n c)) (hlo:ev E lo=some (.int k (l:Int))) (hhi:ev E hi=some (.int k' (h:Int))) (ht:Iv P t=some sz)
  (hlh:l≤h) (hhc:h≤c):BB cl P ⟨d,.slice t x (some lo) (some hi) none,ty,pos,af,g⟩ E hp (.slice (Eb A l sz c) (h-l) (c-l)):=
 .of_pure fun _ a ho w'=>by
  obtain ⟨e,i,hu,hi',hs⟩:=MK ht
  have:=Qa (A:=A) (n:=n) hu hi' hs (.inr ⟨k,rfl⟩:((some (.int k (l:Int)):Option Value)=none∧l=0)∨_) (.inr ⟨k',rfl⟩:((some (.int k' (h:Int)):Option Value)=none∧h=n)∨_) hlh hhc w'
  simp [execOp,ho.eval hx,ho.eval hlo,ho.eval hhi,this]
theorem FD {lo:Operand} {sz l n c:Nat} {k:IntKind} {A:Option Addr} (hx:ev E x=some (.slice A n c)) (hlo:ev E lo=some (.int k (l:Int))) (ht:Iv P t=some sz)
  (hlh:l≤n) (hhc:n≤c):BB cl P ⟨d,.slice t x (some lo) none none,ty,pos,af,g⟩ E hp (.slice (Eb A l sz c) (n-l) (c-l)):=
 .of_pure fun _ a ho w'=>by
  obtain ⟨e,i,hu,hi',hs⟩:=MK ht
  have:=Qa (A:=A) (n:=n) hu hi' hs (.inr ⟨k,rfl⟩:((some (.int k (l:Int)):Option Value)=none∧l=0)∨_) (.inl ⟨rfl,rfl⟩) hlh hhc w'
  simp [execOp,ho.eval hx,ho.eval hlo,this]
theorem KZ {hi:Operand} {sz h n c:Nat} {k:IntKind} {A:Option Addr} (hx:ev E x=some (.slice A n c)) (hhi:ev E hi=some (.int k (h:Int))) (ht:Iv P t=some sz)
  (hhc:h≤c):BB cl P ⟨d,.slice t x none (some hi) none,ty,pos,af,g⟩ E hp (.slice (Eb A 0 sz c) h c):=
 .of_pure fun _ a ho w'=>by
  obtain ⟨e,i,hu,hi',hs⟩:=MK ht
  have:=Qa (A:=A) (n:=n) hu hi' hs (.inl ⟨rfl,rfl⟩) (.inr ⟨k,rfl⟩:((some (.int k (h:Int)):Option Value)=none∧h=n)∨_) (Nat.zero_le _) hhc w'
  simp [execOp,ho.eval hx,ho.eval hhi,this]
theorem H1 (A:Option Addr) (sz m:Nat):Eb A 0 sz m=A:=by
 unfold Eb
 split
 ·rfl
 ·cases A <;> simp [Addr.add]
theorem Ke {A:Option Addr} {vs:List Value} {a:Addr} {w:World} (h:Rd w.heap A vs) (hA:A=some a):∀ (j:Nat) (u:Value),vs[j]? =some u→w.cell? (a.add j)=some u:=by
 intro j u hu
 rcases h with rfl | ⟨b,o,hA',hc⟩
 ·simp at hu
 ·rw [hA]at hA';cases hA'
  rw [E6];exact hc j u hu
theorem XJ (z:Array Value) (n:Nat):(Builtin.zeroCells z n).size=n*z.size:=by simp [Builtin.zeroCells]
theorem Vk {e sz b m c:Nat} {zs:List Value} {v:Value} {vs news:List Value} {A:Option Addr} {S:Nat→Prop} {w:World} (ht:DA P t=some (e,sz,b,zs)) (hzs:zs.length=sz) (hsz:0<sz) (hr:Hv e sz v vs w.heap S)
  (hn:Rd w.heap A news) (hl:news.length=m*sz) (h1:∀u∈news,Value.one u=true) (hb0:0<b) (hb:(vs.length+news.length)*b≤140737488355328):
  ∃v' w',(Builtin.append_ #[t,t] ty #[v,.slice A m c]).run P w= .ok v' w'∧B8 w w'∧HR (row e sz v vs) w.heap (row e sz v' (vs++news)) w'.heap:=by
 obtain ⟨i,z,hu,hi,hz,hs,hbz,hzc⟩:=FW ht
 subst hs hbz
 have hzs':z.cells.size=i.size:=by rw [hzc];simpa using hzs
 have hlen:vs.length+news.length≤140737488355328:=Nat.le_trans (Nat.le_mul_of_pos_right _ hb0) hb
 -- A row that is new.
 have fresh:∀ (n old:Nat),vs.length=n*i.size→n+m≠0→(∀S,Hv e i.size v vs w.heap S→∀k,S k→k<w.heap.size)→
   HR (row e i.size v vs) w.heap (row e i.size (.slice (some ⟨w.heap.size,0,none⟩) (n+m) (grownCap w (n+m) old e)) (vs++news))
    (w.heap.push (.cells (vs.toArray++news.toArray++Builtin.zeroCells z.cells (grownCap w (n+m) old e - (n+m))) e)):=by
  intro n old hvn h0 _
  have hge:=grownCap_ge w (n+m) old e
  have hnm:n+m≤maxLen:=by
   have:(n+m)*i.size≤140737488355328:=by rw [Nat.add_mul,←hvn,←hl];exact hlen
   have:=Nat.le_trans (Nat.le_mul_of_pos_right (n+m) hsz) this
   simp only [maxLen];omega
  have hcm:=grownCap_le_maxLen w (n+m) old e hnm
  refine ⟨(Fg _ _).size,fun S hS=>⟨fun k=>k=w.heap.size,.inr ⟨w.heap.size,n+m,_,_,(0,0),rfl,Jn _ _,hge,hcm,?_,?_,?_,?_,fun _=>Iff.rfl⟩,fun k hk=> .inr (by omega),fun k hk _=>(Fg _ _).blk k hk⟩⟩
  ·simp only [Array.size_append,List.size_toArray,XJ,hzs',hvn,hl,←Nat.add_mul]
   congr 1;omega
  ·simp only [Array.toList_append,List.append_assoc]
   rw [←List.append_assoc,Nat.add_mul,←hvn,←hl,←List.length_append]
   exact List.take_left
  ·rw [List.length_append,hvn,hl,Nat.add_mul]
  ·exact .inl rfl
 have b63:∀n,vs.length=n*i.size→n+m≤140737488355328∧(n+m)*i.bytes≤140737488355328:=by
  intro n hvn
  have h2:(n+m)*i.size≤vs.length+news.length:=by rw [Nat.add_mul,←hvn,←hl];exact Nat.le_refl _
  have h3:n+m≤vs.length+news.length:=Nat.le_trans (Nat.le_mul_of_pos_right _ hsz) h2
  exact ⟨by omega,Nat.le_trans (Nat.mul_le_mul_right _ h3) hb⟩
 have hlt:∀S,Hv e i.size v vs w.heap S→∀k,S k→k<w.heap.size:=fun S hS k hk=>(row e i.size v vs).lt hS k hk
 -- What is added has no address only where it is empty.
 cases A with
 | none=>
  have hne:news=[]:=by
   rcases hn with h | ⟨_,_,h,_⟩
   ·exact h
   ·cases h
  subst hne
  have hm:m=0:=by
   rcases Nat.eq_zero_or_pos m with h | h
   ·exact h
   ·have:=Nat.mul_pos h hsz;simp at hl;omega
  subst hm
  refine ⟨v,w,?_,B8.refl w,Nat.le_refl _,fun S hS=>⟨S,by simpa using hS,fun k hk=> .inl hk,fun _ _ _=>rfl⟩⟩
  rcases hr with ⟨rfl,rfl,_⟩ | ⟨g,n,cap,cur,fr,rfl,h2,h3,h4,h5,h6,h7,h8,hS⟩
  ·simp [Builtin.append_,run_underlying hu,sizeOf,typeInfo,hi,Builtin.lenOf,Builtin.firstCells]
  ·simp [Builtin.append_,run_underlying hu,sizeOf,typeInfo,hi,Builtin.lenOf,Builtin.firstCells,h3,storeCells]
 | some a=>
  have hcell:=Ke hn rfl
  rcases hr with ⟨rfl,rfl,hS0⟩ | ⟨g,n,cap,cur,fr,rfl,h2,h3,h4,h5,h6,h7,h8,hS⟩
  ·by_cases hm:m=0
   ·subst hm
    have hne:news=[]:=List.eq_nil_of_length_eq_zero (by simpa using hl)
    subst hne
    refine ⟨.slice none 0 0,w,?_,B8.refl w,Nat.le_refl _,fun S hS=>⟨S,by simpa using hS,fun k hk=> .inl hk,fun _ _ _=>rfl⟩⟩
    simp [Builtin.append_,run_underlying hu,sizeOf,typeInfo,hi,Builtin.lenOf,Builtin.firstCells,loadCells,loadCellsFrom]
   ·obtain ⟨q1,q2⟩:=b63 0 (by simp)
    have hrun:=run_append_nil (P:=P) w t ty e i z hu hi hz a m c news hl hcell (by omega) (by omega) (by simp at q2;omega)
    have hf:=fresh 0 0 (by simp) (by omega) hlt
    simp only [Nat.zero_add,List.nil_append,Array.empty_append]at hf
    exact ⟨_,_,hrun,⟨rfl,rfl,rfl⟩,hf⟩
  ·by_cases hroom:n+m≤cap
   ·have hfit:n*i.size+news.length≤cur.size:=by rw [hl,h5,←Nat.add_mul];exact Nat.mul_le_mul_right _ hroom
    obtain ⟨w',hst,hinv,hsz',hoth,hnew⟩:=IQ (P:=P) (p:=g) (o:=n*i.size) (e:=e) (fr:=fr) news 0 cur w h1 h2 (by simpa using hfit) h8
    have hfc:=run_firstCells_some (P:=P) w i.size m a m c news hl hcell
    refine ⟨.slice (some ⟨g,0,none⟩) (n+m) cap,w',?_,hinv,by rw [hsz'];exact Nat.le_refl _,fun S' hS'=> ?_⟩
    ·simp [Builtin.append_,run_underlying hu,sizeOf,typeInfo,hi,Builtin.lenOf,hroom,hfc,E6,hst]
    ·have hSg:∀k,S' k↔k=g:=by
      rcases hS' with ⟨hh,_⟩ | ⟨g',n',cap',cur',fr',hh,_,_,_,_,_,_,_,hS''⟩
      ·cases hh
      ·cases hh;exact hS''
     simp only [Nat.add_zero]at hnew
     refine ⟨S',.inr ⟨g,n+m,cap,_,fr,rfl,hnew,hroom,h4,?_,?_,?_,?_,hSg⟩,fun k hk=> .inl hk,fun k _ hk=>hoth k (fun h=>hk ((hSg k).2 h))⟩
     ·simp only [List.size_toArray,List.length_append,List.length_take,List.length_drop,Array.length_toList]
      omega
     ·rw [h6,Nat.add_mul,←h7,←hl,←List.length_append]
      exact List.take_left
     ·rw [List.length_append,h7,hl,Nat.add_mul]
     ·have:((cur.toList.take (n*i.size)++news++cur.toList.drop (n*i.size+news.length)).toArray).size=cur.size:=by
       simp only [List.size_toArray,List.length_append,List.length_take,List.length_drop,Array.length_toList]
       omega
      rw [this];exact h8
   ·obtain ⟨q1,q2⟩:=b63 n h7
    have holds:∀ (j:Nat) (u:Value),vs[j]? =some u→w.cell? ((⟨g,0,none⟩:Addr).add j)=some u:=by
     intro j u hu'
     rw [E6,Ol]
     simp only [Az,h2,Nat.zero_add]
     rw [←h6,List.getElem?_take]at hu'
     split at hu'
     ·simpa using hu'
     ·cases hu'
    have hrun:=run_append_grow (P:=P) w t ty e i z hu hi hz ⟨g,0,none⟩ n cap vs h7 holds a m c news hl hcell (by omega) (by omega) (growslice_fits (by omega) q2)
    exact ⟨_,_,hrun,⟨rfl,rfl,rfl⟩,fresh n cap h7 (by omega) hlt⟩
theorem BY {e sz b m c:Nat} {zs:List Value} {v:Value} {vs news:List Value} {A:Option Addr} {B:Nat} {h0:AA} {rs:List AE} (st:St B h0 hp rs) (j:Nat) (hj:rs[j]? =some (row e sz v vs)) (hn:Rd hp A news) (hl:news.length=m*sz)
  (h1:∀u∈news,Value.one u=true) (hb:(vs.length+news.length)*b≤140737488355328) (hx:ev E x=some v) (hy:ev E y=some (.slice A m c)) (ht:DA P t=some (e,sz,b,zs)) (hzs:Nat.beq zs.length sz=true) (hsz:Nat.blt 0 sz=true) (hb0:Nat.blt 0 b=true)
  {ts:Array TypeId} (hts:ts= #[t,t]):
  Bd P ⟨d,.call ⟨.builtin .append,#[x,y],ts⟩,ty,pos,af,g⟩ E hp (fun v' hp'=>St B h0 hp' (rs.set j (row e sz v' (vs++news)))):=by
 intro n a w ho hw K hK
 subst hw hts
 obtain ⟨S,hS,_⟩:=st.at_ hj
 obtain ⟨v',w',hrun,hinv,hupd⟩:=Vk (ty:=ty) (c:=c) ht (Nat.eq_of_beq_eq_true hzs) (by simpa [Nat.blt_eq]using hsz) hS hn hl h1 (by simpa [Nat.blt_eq]using hb0) hb
 have hrun':(execOp a.eval ⟨d,.call ⟨.builtin .append,#[x,y],#[t,t]⟩,ty,pos,af,g⟩).run P w= .ok (.value v') w':=by
  simp [execOp,resolve,ho.eval hx,ho.eval hy,invoke,builtin,hrun]
 simp only [Oper.wp,hrun',Oper.upon]
 exact hK v' w' hinv (st.upd hj hupd)
end
end Go.Bn
end

section
namespace Go.Bn
open Go
def AI:IntKind→Int→Prop
  | .i8,n=> -128≤n∧n≤127
  | .i16,n=> -32768≤n∧n≤32767
  | .i32,n=> -2147483648≤n∧n≤2147483647
  | .i64,n=> -9223372036854775808≤n∧n≤9223372036854775807
  | .u8,n=>0≤n∧n≤255
  | .u16,n=>0≤n∧n≤65535
  | .u32,n=>0≤n∧n≤4294967295
  | .u64,n=>0≤n∧n≤18446744073709551615
theorem G4 {k:IntKind} {n:Int} (h:AI k n):k.wrap n=n:=by
 cases k <;> simp only [AI]at h
 ·exact IntWalk.i8_in _ h
 ·exact IntWalk.i16_in _ h
 ·exact IntWalk.i32_in _ h
 ·exact IntWalk.i64_in _ h
 ·exact IntWalk.u8_in _ h
 ·exact IntWalk.u16_in _ h
 ·exact IntWalk.u32_in _ h
 ·exact IntWalk.u64_in _ h
def Jc:Ca→Bool
  | .pure=>false
  | _=>true
section
variable {P:Program} {E:Au} {hp:AA} {cl:Ca} {d:Option Tmp} {ty:TypeId} {pos:String} {af:Array Edge} {g:Option (Nat×Bool)}
variable {x y:Operand} {t t':TypeId} {k:IntKind} {a b:Int}
theorem BB.of_load {o:Oper} {v:Value} (hc:Jc cl=true) (h:BB .load P o E hp v):BB cl P o E hp v:=by
 cases cl <;> first | (cases hc;done) | exact h
theorem Na {ad:Addr} {v:Value} (hc:Az hp ad=some v) (hx:ev E x=some (.pointer (some ad))) (ht:D6 P t=true) (hcl:Jc cl=true):BB cl P ⟨d,.load t x,ty,pos,af,g⟩ E hp v:=
 .of_load hcl (cB hx ht hc)
theorem Ai {bk o n:Nat} {vs:List Value} (hc:∀j u,vs[j]? =some u→Az hp ⟨bk,o+j,none⟩=some u) (hx:ev E x=some (.pointer (some ⟨bk,o,none⟩))) (ht:Dx P t=some n) (hl:vs.length=n) (hcl:Jc cl=true):
  BB cl P ⟨d,.load t x,ty,pos,af,g⟩ E hp (.agg vs.toArray):= .of_load hcl (cC hx ht hl hc)
theorem Gu {A:Option Addr} {n c:Nat} {l:List UInt8} (hr:Rd hp A (l.map AN)) (hx:ev E x=some (.slice A n c)) (hl:l.length=n) (ht:LP P t=true) (ht':Ed P t'=true) (hcl:Jc cl=true):
  BB cl P ⟨d,.convert t t' x,ty,pos,af,g⟩ E hp (.string (str l)):= .of_load hcl (cE hx ht ht' hl hr)
theorem IF (hx:ev E x=some (.int k a)) (hy:ev E y=some (.int k b)) (h:AI k (a+b)):BB cl P ⟨d,.binOp .add t x y t',ty,pos,af,g⟩ E hp (.int k (a+b)):=by
 have:=IE (cl:=cl) (P:=P) (hp:=hp) (d:=d) (ty:=ty) (pos:=pos) (af:=af) (g:=g) (t:=t) (t':=t') hx hy
 rwa [G4 h]at this
theorem EU (hx:ev E x=some (.int k a)) (hy:ev E y=some (.int k b)) (h:AI k (a-b)):BB cl P ⟨d,.binOp .sub t x y t',ty,pos,af,g⟩ E hp (.int k (a-b)):=by
 have:=II (cl:=cl) (P:=P) (hp:=hp) (d:=d) (ty:=ty) (pos:=pos) (af:=af) (g:=g) (t:=t) (t':=t') hx hy
 rwa [G4 h]at this
theorem F8 (hx:ev E x=some (.int k a)) (hy:ev E y=some (.int k b)) (h:AI k (a*b)):BB cl P ⟨d,.binOp .mul t x y t',ty,pos,af,g⟩ E hp (.int k (a*b)):=by
 have:=F7 (cl:=cl) (P:=P) (hp:=hp) (d:=d) (ty:=ty) (pos:=pos) (af:=af) (g:=g) (t:=t) (t':=t') hx hy
 rwa [G4 h]at this
theorem Bj {k':IntKind} (hx:ev E x=some (.int k a)) (hc:Ms P t t'=some k') (h:AI k' a):BB cl P ⟨d,.convert t t' x,ty,pos,af,g⟩ E hp (.int k' a):=by
 have:=Dm (cl:=cl) (P:=P) (hp:=hp) (d:=d) (ty:=ty) (pos:=pos) (af:=af) (g:=g) hx hc
 rwa [G4 h]at this
theorem Nd (hx:ev E x=some (.int k a)) (hy:ev E y=some (.int k b)) (ha:0≤a) (hb:0<b) (hk:AI k a):BB cl P ⟨d,.binOp .quo t x y t',ty,pos,af,g⟩ E hp (.int k (a/b)):=by
 have:=Nc (cl:=cl) (P:=P) (hp:=hp) (d:=d) (ty:=ty) (pos:=pos) (af:=af) (g:=g) (t:=t) (t':=t') hx hy (by omega)
 rw [Int.tdiv_eq_ediv_of_nonneg ha]at this
 have h1:0≤a/b:=Int.ediv_nonneg ha (by omega)
 have h2:a/b≤a:=Int.ediv_le_self _ ha
 rwa [G4 (by cases k <;> simp only [AI]at hk ⊢ <;> omega)]at this
theorem Ng (hx:ev E x=some (.int k a)) (hy:ev E y=some (.int k b)) (ha:0≤a) (hb:0<b):BB cl P ⟨d,.binOp .rem t x y t',ty,pos,af,g⟩ E hp (.int k (a%b)):=by
 have:=Nf (cl:=cl) (P:=P) (hp:=hp) (d:=d) (ty:=ty) (pos:=pos) (af:=af) (g:=g) (t:=t) (t':=t') hx hy (by omega)
 rwa [Int.tmod_eq_emod_of_nonneg ha]at this
theorem Lw {k':IntKind} (s:Nat) (hx:ev E x=some (.int k a)) (hy:ev E y=some (.int k' (s:Int))) (hs:s≤k.bits):BB cl P ⟨d,.binOp .shl t x y t',ty,pos,af,g⟩ E hp (.int k (k.wrap (a*2^s))):=by
 have:=UZ (cl:=cl) (P:=P) (hp:=hp) (d:=d) (ty:=ty) (pos:=pos) (af:=af) (g:=g) (t:=t) (t':=t') hx hy (by omega)
 rwa [show min (Int.toNat (s:Int)) k.bits=s by simp;omega]at this
theorem Lv {k':IntKind} (s:Nat) (hx:ev E x=some (.int k a)) (hy:ev E y=some (.int k' (s:Int))) (hs:s≤k.bits) (h:AI k (a*2^s)):BB cl P ⟨d,.binOp .shl t x y t',ty,pos,af,g⟩ E hp (.int k (a*2^s)):=by
 have:=Lw (cl:=cl) (P:=P) (hp:=hp) (d:=d) (ty:=ty) (pos:=pos) (af:=af) (g:=g) (t:=t) (t':=t') s hx hy hs
 rwa [G4 h]at this
theorem Ez {k':IntKind} (s:Nat) (hx:ev E x=some (.int k a)) (hy:ev E y=some (.int k' (s:Int))) (hs:s≤k.bits):BB cl P ⟨d,.binOp .shr t x y t',ty,pos,af,g⟩ E hp (.int k (a/2^s)):=by
 have:=Ni (cl:=cl) (P:=P) (hp:=hp) (d:=d) (ty:=ty) (pos:=pos) (af:=af) (g:=g) (t:=t) (t':=t') hx hy (by omega)
 rw [show min (Int.toNat (s:Int)) k.bits=s by simp;omega]at this
 rwa [Int.fdiv_eq_ediv_of_nonneg _ (Int.le_of_lt (Int.pow_pos (by omega)))]at this
theorem CH {m n:Nat} (hx:ev E x=some (.int k (m:Int))) (hy:ev E y=some (.int k (n:Int))) (h:AI k ((m+n:Nat):Int)):BB cl P ⟨d,.binOp .add t x y t',ty,pos,af,g⟩ E hp (.int k ((m+n:Nat):Int)):=by
 rw [Int.natCast_add]at h ⊢;exact IF hx hy h
theorem Bk {m n:Nat} (hx:ev E x=some (.int k (m:Int))) (hy:ev E y=some (.int k (n:Int))) (hle:n≤m) (h:AI k ((m-n:Nat):Int)):BB cl P ⟨d,.binOp .sub t x y t',ty,pos,af,g⟩ E hp (.int k ((m-n:Nat):Int)):=by
 rw [Int.ofNat_sub hle]at h ⊢;exact EU hx hy h
theorem D0 {m n:Nat} (hx:ev E x=some (.int k (m:Int))) (hy:ev E y=some (.int k (n:Int))) (h:AI k ((m*n:Nat):Int)):BB cl P ⟨d,.binOp .mul t x y t',ty,pos,af,g⟩ E hp (.int k ((m*n:Nat):Int)):=by
 rw [Int.natCast_mul]at h ⊢;exact F8 hx hy h
theorem KY {m n:Nat} (hx:ev E x=some (.int k (m:Int))) (hy:ev E y=some (.int k (n:Int))) (hn:0<n) (h:AI k (m:Int)):BB cl P ⟨d,.binOp .quo t x y t',ty,pos,af,g⟩ E hp (.int k ((m/n:Nat):Int)):=by
 rw [Int.natCast_ediv];exact Nd hx hy (by omega) (by omega) h
theorem Nh {m n:Nat} (hx:ev E x=some (.int k (m:Int))) (hy:ev E y=some (.int k (n:Int))) (hn:0<n):BB cl P ⟨d,.binOp .rem t x y t',ty,pos,af,g⟩ E hp (.int k ((m%n:Nat):Int)):=by
 rw [Int.natCast_emod];exact Ng hx hy (by omega) (by omega)
theorem GT {k':IntKind} {m:Nat} (s:Nat) (hx:ev E x=some (.int k (m:Int))) (hy:ev E y=some (.int k' (s:Int))) (hs:s≤k.bits) (h:AI k ((m*2^s:Nat):Int)):BB cl P ⟨d,.binOp .shl t x y t',ty,pos,af,g⟩ E hp (.int k ((m*2^s:Nat):Int)):=by
 have e:((m*2^s:Nat):Int)=(m:Int)*2^s:=by rw [Int.natCast_mul,Int.natCast_pow];rfl
 rw [e]at h ⊢;exact Lv s hx hy hs h
theorem EK {k':IntKind} {m:Nat} (s:Nat) (hx:ev E x=some (.int k (m:Int))) (hy:ev E y=some (.int k' (s:Int))) (hs:s≤k.bits):BB cl P ⟨d,.binOp .shr t x y t',ty,pos,af,g⟩ E hp (.int k ((m/2^s:Nat):Int)):=by
 have e:((m/2^s:Nat):Int)=(m:Int)/2^s:=by rw [Int.natCast_ediv,Int.natCast_pow];rfl
 rw [e];exact Ez s hx hy hs
theorem Py {k':IntKind} {m:Nat} (s:Nat) (hx:ev E x=some (.int k (m:Int))) (hy:ev E y=some (.int k' (s:Int))) (hm:m<2^k.bits):BB cl P ⟨d,.binOp .shr t x y t',ty,pos,af,g⟩ E hp (.int k ((m/2^s:Nat):Int)):=by
 rcases Nat.lt_or_ge k.bits s with h | h
 ·have:=Ni (cl:=cl) (P:=P) (hp:=hp) (d:=d) (ty:=ty) (pos:=pos) (af:=af) (g:=g) (t:=t) (t':=t') hx hy (by omega)
  rw [show min (Int.toNat (s:Int)) k.bits=k.bits by simp;omega,Int.fdiv_eq_ediv_of_nonneg _ (Int.le_of_lt (Int.pow_pos (by omega)))]at this
  have e1:(m:Int)/2^k.bits=((m/2^k.bits:Nat):Int):=by rw [Int.natCast_ediv,Int.natCast_pow];rfl
  rw [e1,Nat.div_eq_of_lt hm]at this
  rwa [Nat.div_eq_of_lt (Nat.lt_of_lt_of_le hm (Nat.pow_le_pow_right (by omega) (by omega)))]
 ·exact EK s hx hy h
theorem gr {k:IntKind} (hk:k.signed=false) (m:Nat):k.wrap (m:Int)=((m%2^k.bits:Nat):Int):=by
 unfold IntKind.wrap
 simp [hk]
theorem IH {k':IntKind} {m:Nat} (hx:ev E x=some (.int k (m:Int))) (hc:Ms P t t'=some k') (hk:k'.signed=false):BB cl P ⟨d,.convert t t' x,ty,pos,af,g⟩ E hp (.int k' ((m%2^k'.bits:Nat):Int)):=by
 have:=Dm (cl:=cl) (P:=P) (hp:=hp) (d:=d) (ty:=ty) (pos:=pos) (af:=af) (g:=g) hx hc
 rwa [gr hk]at this
theorem K7 {k:IntKind} (op:BinOp) (m n:Nat) (hm:m<2^k.bits) (hn:n<2^k.bits):Hz op k (m:Int) (n:Int)=k.wrap ((match op with
  | .and=>m&&& n
  | .or=>m||| n
  | .xor=>m^^^n
  | _=>m&&& (2^k.bits-1-n)):Nat):=by
 have e1:BitVec.ofInt k.bits (m:Int)=BitVec.ofNat k.bits m:=by simp
 have e2:BitVec.ofInt k.bits (n:Int)=BitVec.ofNat k.bits n:=by simp
 unfold Hz
 simp only [e1,e2]
 split <;> simp [Nat.mod_eq_of_lt hm,Nat.mod_eq_of_lt hn]
theorem Q0 (k:IntKind) (hk:k.signed=false) {n:Nat} (h:n<2^k.bits):AI k (n:Int):=by
 cases k <;> first | (cases hk;done) | (simp only [IntKind.bits]at h;simp only [AI];omega)
theorem Je {m n:Nat} (hx:ev E x=some (.int k (m:Int))) (hy:ev E y=some (.int k (n:Int))) (hk:k.signed=false) (hm:m<2^k.bits) (hn:n<2^k.bits):BB cl P ⟨d,.binOp .and t x y t',ty,pos,af,g⟩ E hp (.int k ((m&&& n:Nat):Int)):=by
 have:=IG (cl:=cl) (P:=P) (hp:=hp) (d:=d) (ty:=ty) (pos:=pos) (af:=af) (g:=g) (t:=t) (t':=t') hx hy
 rw [K7 .and m n hm hn]at this
 simp only at this
 rwa [G4 (Q0 k hk (Nat.lt_of_le_of_lt Nat.and_le_left hm))]at this
theorem Px {m n:Nat} (hx:ev E x=some (.int k (m:Int))) (hy:ev E y=some (.int k (n:Int))) (hk:k.signed=false) (hm:m<2^k.bits) (hn:n<2^k.bits):BB cl P ⟨d,.binOp .or t x y t',ty,pos,af,g⟩ E hp (.int k ((m||| n:Nat):Int)):=by
 have:=Nb (cl:=cl) (P:=P) (hp:=hp) (d:=d) (ty:=ty) (pos:=pos) (af:=af) (g:=g) (t:=t) (t':=t') hx hy
 rw [K7 .or m n hm hn]at this
 simp only at this
 rwa [G4 (Q0 k hk (Nat.or_lt_two_pow hm hn))]at this
theorem Nk {m n:Nat} (hx:ev E x=some (.int k (m:Int))) (hy:ev E y=some (.int k (n:Int))) (hk:k.signed=false) (hm:m<2^k.bits) (hn:n<2^k.bits):BB cl P ⟨d,.binOp .xor t x y t',ty,pos,af,g⟩ E hp (.int k ((m^^^n:Nat):Int)):=by
 have:=Nj (cl:=cl) (P:=P) (hp:=hp) (d:=d) (ty:=ty) (pos:=pos) (af:=af) (g:=g) (t:=t) (t':=t') hx hy
 rw [K7 .xor m n hm hn]at this
 simp only at this
 rwa [G4 (Q0 k hk (Nat.xor_lt_two_pow hm hn))]at this
theorem Pv {m n:Nat} (hx:ev E x=some (.int k (m:Int))) (hy:ev E y=some (.int k (n:Int))) (hm:AI k (m:Int)) (hn:AI k (n:Int)):BB cl P ⟨d,.binOp .and t x y t',ty,pos,af,g⟩ E hp (.int k ((m&&& n:Nat):Int)):=by
 have h1:m<2^k.bits:=by cases k <;> simp only [AI]at hm <;> simp only [IntKind.bits] <;> omega
 have h2:n<2^k.bits:=by cases k <;> simp only [AI]at hn <;> simp only [IntKind.bits] <;> omega
 have:=IG (cl:=cl) (P:=P) (hp:=hp) (d:=d) (ty:=ty) (pos:=pos) (af:=af) (g:=g) (t:=t) (t':=t') hx hy
 rw [K7 .and m n h1 h2]at this
 simp only at this
 have h3:m&&& n≤m:=Nat.and_le_left
 rwa [G4 (by cases k <;> simp only [AI]at hm ⊢ <;> omega)]at this
theorem Dl (l:List UInt8):∀u∈l.map AN,Value.one u=true:=by
 intro u hu
 obtain ⟨b,_,rfl⟩:=List.mem_map.1 hu
 rfl
theorem br (k:IntKind) (l:List Int):∀u∈l.map (Value.int k),Value.one u=true:=by
 intro u hu
 obtain ⟨b,_,rfl⟩:=List.mem_map.1 hu
 rfl
theorem VY (hp:AA) (cs:List Value) (e:TypeId):Rd (hp.push (.cells cs.toArray e)) (some ⟨hp.size,0,none⟩) cs:=
 .inr ⟨hp.size,0,rfl,fun i u hu=>by simp [Az];exact hu⟩
theorem Ud {e bt:Nat} {zv v:Value} (hx:ev E x=some v) (h1:Value.one v=true) (ht:DA P t=some (e,1,bt,[zv])):
  Bd P ⟨d,.buildSlice t 1 #[(0,x)],ty,pos,af,g⟩ E hp (fun u hp'=>u= .slice (some ⟨hp.size,0,none⟩) 1 1∧hp'=hp.push (.cells [v].toArray e)):=by
 refine Ly (ps:=[(0,v)]) (cs:=[v]) (by simp [GQ,hx]) ht rfl rfl ?_
 have hc:v.cells= #[v]:=Value.one_cells h1
 have hr:(Array.range (1*1)).map (fun i=>[zv].toArray[i % [zv].toArray.size]!)= #[zv]:=by kernel_rfl
 unfold Jv
 rw [hr]
 simp [Instr.fill,hc]
theorem FE {B:Nat} {h0:AA} {rs:List AE} (st:St B h0 hp rs) (j:Nat) {p i:Nat} {T:TypeId} {cs:List Value} {v:Value} (hj:rs[j]? =some (pt p T cs)) (hx:ev E x=some (.pointer (some ⟨p,i,none⟩))) (hy:ev E y=some v)
  (hi:Nat.blt i cs.length=true) (ht:D6 P t=true) (h1:Value.one v=true):
  Bd P ⟨d,.store t x y,ty,pos,af,g⟩ E hp (fun _ hp'=>St B h0 hp' (rs.set j (pt p T (cs.set i v)))):=by
 obtain ⟨S,⟨hS,hb⟩,_⟩:=st.at_ hj
 have hi':i<cs.length:=by simpa [Nat.blt_eq]using hi
 have hc:Az hp ⟨p,i,none⟩=some cs[i]:=by simp [Az,hb,hi']
 have hf:Ih hp ⟨p,i,none⟩=false:=by simp [Ih,hb]
 intro n a w ho hw K hK
 exact Uj hx hy ht h1 hc hf n a w ho hw K fun v' w' hi ⟨_,hh⟩=>hK v' w' hi (by rw [hh];exact st.upd hj (f5 v))
theorem cT {B:Nat} {h0:AA} {rs:List AE} (st:St B h0 hp rs) (j:Nat) {p i:Nat} {T:TypeId} {cs:List Value} {v:Value} (hj:rs[j]? =some (pt p T cs)) (hx:ev E x=some (.pointer (some ⟨p,i,none⟩))) (hy:ev E y=some v)
  (hi:i<cs.length) (ht:D6 P t=true) (h1:Value.one v=true):
  Bd P ⟨d,.store t x y,ty,pos,af,g⟩ E hp (fun _ hp'=>St B h0 hp' (rs.set j (pt p T (cs.set i v)))):=FE st j hj hx hy (by simpa [Nat.blt_eq]using hi) ht h1
theorem f6 {e sz gb o n c i:Nat} {vs:List Value} {hp:AA} (v:Value):HR (row e sz (.slice (some ⟨gb,o,none⟩) n c) vs) hp (row e sz (.slice (some ⟨gb,o,none⟩) n c) (vs.set i v)) (IR hp ⟨gb,o+i,none⟩ v):=by
 refine ⟨by rw [Qi];exact Nat.le_refl _,fun S hr=> ?_⟩
 rcases hr with ⟨hh,_⟩ | ⟨g',n',cap,cur,fr,hh,h2,h3,h4,h5,h6,h7,h8,hS⟩
 ·cases hh
 ·cases hh
  refine ⟨S,.inr ⟨gb,n,c,cur.setIfInBounds i v,fr,rfl,?_,h3,h4,by simpa using h5,?_,by simpa using h7,by simpa using h8,hS⟩,fun k hk=> .inl hk,fun k _ hk=>Qg _ _ _ _ (fun e=>hk ((hS k).2 e))⟩
  ·rw [Nat.zero_add];exact Qh v h2
  ·rw [Array.toList_setIfInBounds,List.take_set,h6]
theorem EL {B:Nat} {h0:AA} {rs:List AE} (st:St B h0 hp rs) (j:Nat) {gb o e sz n c i:Nat} {vs:List Value} {v:Value} (hj:rs[j]? =some (row e sz (.slice (some ⟨gb,o,none⟩) n c) vs)) (hx:ev E x=some (.pointer (some ⟨gb,o+i,none⟩))) (hy:ev E y=some v)
  (hi:i<vs.length) (ht:D6 P t=true) (h1:Value.one v=true):
  Bd P ⟨d,.store t x y,ty,pos,af,g⟩ E hp (fun _ hp'=>St B h0 hp' (rs.set j (row e sz (.slice (some ⟨gb,o,none⟩) n c) (vs.set i v)))):=by
 obtain ⟨S,hr,_⟩:=st.at_ hj
 have key:Az hp ⟨gb,o+i,none⟩=some vs[i]∧Ih hp ⟨gb,o+i,none⟩=false:=by
  rcases hr with ⟨hh,_⟩ | ⟨g',n',cap,cur,fr,hh,h2,h3,h4,h5,h6,h7,h8,hS⟩
  ·cases hh
  ·cases hh
   have hlt:i<cur.size:=by
    have:vs.length≤cur.size:=by rw [h7,h5];exact Nat.mul_le_mul_right _ h3
    omega
   constructor
   ·simp only [Az,h2,Nat.zero_add]
    have:vs[i]? =cur[i]? :=by
     rw [←h6,List.getElem?_take,if_pos (by omega)];simp
    simp [←this,hi]
   ·have:=h8.free i hlt
    simp only [Ih,h2,Nat.zero_add]
    simpa using this
 intro m a w ho hw K hK
 exact Uj hx hy ht h1 key.1 key.2 m a w ho hw K fun v' w' hi ⟨_,hh⟩=>hK v' w' hi (by rw [hh];exact st.upd hj (f6 v))
theorem KS (hp:AA) (e sz n:Nat) (cs:List Value) (hl:cs.length=n*sz) (hn:n≤maxLen):EZ (row e sz (.slice (some ⟨hp.size,0,none⟩) n n) cs) hp (hp.push (.cells cs.toArray e)):=by
 refine ⟨Fg _ _,fun k=>k=hp.size,.inr ⟨hp.size,n,n,cs.toArray,(0,0),rfl,Jn _ _,Nat.le_refl _,hn,by simpa using hl,?_,hl,?_,fun _=>Iff.rfl⟩,fun k hk=>by omega⟩
 ·rw [List.take_of_length_le (by simp;omega)]
 ·exact .inl rfl
theorem Jj {e bt:Nat} {zv v:Value} (hx:ev E x=some v) (h1:Value.one v=true) (ht:DA P t=some (e,1,bt,[zv])):
  Bd P ⟨d,.buildSlice t 1 #[(0,x)],ty,pos,af,g⟩ E hp (fun u hp'=>EZ (row e 1 u [v]) hp hp'):=by
 intro n a w ho hw K hK
 exact Ud hx h1 ht n a w ho hw K fun v' w' hi ⟨h1,h2⟩=>hK v' w' hi (by rw [h1,h2];exact KS hp e 1 1 [v] rfl (by simp [maxLen]))
theorem Ep {e bt:Nat} {zv v:Value} (hx:ev E x=some v) (h1:Value.one v=true) (ht:DA P t=some (e,1,bt,[zv])):
  Bd P ⟨d,.buildSlice t 1 #[(0,x)],ty,pos,af,g⟩ E hp (fun u hp'=>∃A,u= .slice A 1 1∧AV hp hp'∧Rd hp' A [v]):=by
 intro n a w ho hw K hK
 exact Ud hx h1 ht n a w ho hw K fun v' w' hi ⟨h1,h2⟩=>hK v' w' hi ⟨_,h1,by rw [h2];exact Fg _ _,by rw [h2];exact VY _ _ _⟩
theorem CK {zs:List Value} (hz:MR P t=some zs):Bd P ⟨d,.alloc t,ty,pos,af,g⟩ E hp (fun v hp'=>∃p,v= .pointer (some ⟨p,0,none⟩)∧EZ (pt p t zs) hp hp'):=by
 intro n a w ho hw K hK
 exact cF hz n a w ho hw K fun v' w' hi ⟨h1,h2⟩=>hK v' w' hi ⟨_,h1,by rw [h2];exact Po _⟩
theorem Bv {v:Value} {cs:List Value} (hx:ev E x=some v) (hc:v.cells=cs.toArray):Bd P ⟨d,.box t x,ty,pos,af,g⟩ E hp (fun u hp'=>∃p,u= .pointer (some ⟨p,0,none⟩)∧EZ (pt p t cs) hp hp'):=by
 intro n a w ho hw K hK
 exact cI hx hc n a w ho hw K fun v' w' hi ⟨h1,h2⟩=>hK v' w' hi ⟨_,h1,by rw [h2];exact Po _⟩
theorem bB (n:Nat) (z:Value):((Array.range (n*1)).map (fun i=>[z].toArray[i % [z].toArray.size]!))=(List.replicate n z).toArray:=by
 apply Array.ext
 ·simp
 ·intro i h1 h2
  simp [Nat.mod_one]
theorem GA {e b:Nat} {zv:Value} {n:Nat} {k:IntKind} (hn:n*b≤140737488355328) (hx:ev E x=some (.int k (n:Int))) (ht:DA P t=some (e,1,b,[zv])) (hb:Nat.blt 0 b=true):
  Bd P ⟨d,.makeSlice t x x,ty,pos,af,g⟩ E hp (fun v hp'=>EZ (row e 1 v (List.replicate n zv)) hp hp'):=by
 intro m a w ho hw K hK
 have hn1:n≤140737488355328:=Nat.le_trans (Nat.le_mul_of_pos_right _ (by simpa [Nat.blt_eq]using hb)) hn
 exact cN hx ht hb hn m a w ho hw K fun v' w' hi ⟨h1,h2⟩=>hK v' w' hi (by rw [h1,h2,bB];exact KS hp e 1 n _ (by simp) (by simp only [maxLen];omega))
theorem Ji {e sz b:Nat} {zs:List Value} (ht:DA P t=some (e,sz,b,zs)):Bd P ⟨d,.buildSlice t 0 #[],ty,pos,af,g⟩ E hp (fun u hp'=>EZ (row e sz u []) hp hp'):=by
 intro n a w ho hw K hK
 subst hw
 obtain ⟨i,z,hu,hi,hz,hsz,_,hzc⟩:=FW ht
 have hrun:(execOp a.eval ⟨d,.buildSlice t 0 #[],ty,pos,af,g⟩).run P w= .ok (.value (.slice (some ⟨w.heap.size,0,none⟩) 0 0)) (w.alloc (.cells #[] e)):=by
  simp only [execOp,Instr.buildSlice,Sem.run_bind,run_underlying hu,Result.andThen_ok,sizeOf,typeInfo,program,Sem.run,hi,Sem.run_pure,Nat.zero_mul,if_true,List.map_toArray]
  simp [Instr.fill,Jt]
  exact congrArg (fun x=>w.alloc (.cells x e)) (Array.ext (by simp) (fun i h1 _=>absurd h1 (by simp)))
 simp only [Oper.wp,hrun,Oper.upon]
 exact hK _ _ ⟨rfl,rfl,rfl⟩ (by
  have:=KS w.heap e sz 0 [] (by simp) (by simp [maxLen])
  exact this)
end
theorem St.nilrow {B:Nat} {h0 hp:AA} {rs:List AE} (s:St B h0 hp rs) (e sz:Nat):St B h0 hp (Bn.row e sz (.slice none 0 0) []::rs):=by
 obtain ⟨S,hS⟩:=s.own
 exact ⟨s.low,s.base,S,fun _=>False,S,.inl ⟨rfl,rfl,fun _ h=>h⟩,hS,fun _ h=>h.elim,fun k=>(or_iff_right (fun h=>h)).symm,fun _ h=>h.elim⟩
end Go.Bn
end

section
namespace Go.Bn
open Go
section
variable {P:Program} {E:Au} {hp:AA} {cl:Ca} {d:Option Tmp} {ty:TypeId} {pos:String} {af:Array Edge} {g:Option (Nat×Bool)}
variable {x y:Operand} {t t':TypeId}
theorem N3 {n:Nat} (ht:Dx P t=some n) (w:World):(sizeOf t).run P w= .ok n w:=by
 have key:∀i,P.info? t=some i→i.size=n→(sizeOf t).run P w= .ok n w:=by
  intro i hi hs
  simp [sizeOf,typeInfo,hi,hs]
 unfold Dx at ht
 split at ht
 ·split at ht
  ·rename_i hi;cases ht;exact key _ hi rfl
  ·cases ht
 ·split at ht
  ·rename_i hi;cases ht;exact key _ hi rfl
  ·cases ht
 ·cases ht
theorem Nq {B:Nat} {h0:AA} {rs:List AE} (st:St B h0 hp rs) (j:Nat) {p o:Nat} {T:TypeId} {cs us:List Value} {ua:Array Value} (hj:rs[j]? =some (pt p T cs)) (hx:ev E x=some (.pointer (some ⟨p,o,none⟩))) (hy:ev E y=some (.agg ua))
  (hu:ua.toList=us) (ht:Dx P t=some us.length) (h1:∀u∈us,Value.one u=true) (hle:o+us.length≤cs.length):
  Bd P ⟨d,.store t x y,ty,pos,af,g⟩ E hp (fun _ hp'=>St B h0 hp' (rs.set j (pt p T (cs.take o++us++cs.drop (o+us.length))))):=by
 obtain rfl:ua=us.toArray:=by rw [←hu]
 obtain ⟨S,⟨hS,hb⟩,_⟩:=st.at_ hj
 intro n a w ho hw K hK
 subst hw
 obtain ⟨w',hr,hi,hs,hother,hthere⟩:=IQ (P:=P) (p:=p) (o:=o) us 0 cs.toArray w h1 hb (by simpa using hle) (.inl rfl)
 have hrun:(execOp a.eval ⟨d,.store t x y,ty,pos,af,g⟩).run P w= .ok .skip w':=by
  simp [execOp,ho.eval hx,ho.eval hy,Instr.storeAt,Instr.sureAddr,storeVar,Value.cells,N3 ht,hr]
 simp only [Oper.wp,hrun,Oper.upon]
 refine hK _ _ hi (st.upd hj ⟨by rw [hs];exact Nat.le_refl _,fun S' hS'=> ?_⟩)
 obtain ⟨hS1,hb1⟩:=hS'
 refine ⟨S',⟨hS1,?_⟩,fun k hk=> .inl hk,fun k _ hk=>hother k (fun e=>hk ((hS1 k).2 e))⟩
 rw [hthere];simp
theorem D3 {B:Nat} {h0:AA} {rs:List AE} (st:St B h0 hp rs) (j:Nat) {p:Nat} {T:TypeId} {cs us:List Value} {ua:Array Value} (hj:rs[j]? =some (pt p T cs)) (hx:ev E x=some (.pointer (some ⟨p,0,none⟩))) (hy:ev E y=some (.agg ua))
  (hu:ua.toList=us) (ht:Dx P t=some us.length) (h1:∀u∈us,Value.one u=true) (hl:us.length=cs.length):
  Bd P ⟨d,.store t x y,ty,pos,af,g⟩ E hp (fun _ hp'=>St B h0 hp' (rs.set j (pt p T us))):=by
 intro n a w ho hw K hK
 refine Nq st j hj hx hy hu ht h1 (by omega) n a w ho hw K fun v' w' hi h=>hK v' w' hi ?_
 simpa [hl]using h
theorem Ax {a:Tmp} {p o n:Nat} {vs:List Value} (h:E.get a=some (.pointer (some ⟨p,o,none⟩))) (ht:Dx P t=some n) (hl:vs.length=n) (hc:∀j u,vs[j]? =some u→Az hp ⟨p,o+j,none⟩=some u):RV P hp E (.cell a t) (.agg vs.toArray):=
 .cell h fun w hw=>by subst hw;exact Vo ht hl hc
end
theorem St.cells {B:Nat} {h0 hp:AA} {rs:List AE} (s:St B h0 hp rs) (j:Nat) {p:Nat} {T:TypeId} {cs:List Value} (hj:rs[j]? =some (pt p T cs)):∀i u,cs[i]? =some u→Az hp ⟨p,0+i,none⟩=some u:=by
 intro i u hu
 rw [Nat.zero_add]
 exact s.cell j hj hu
theorem List.set_getElem?_self' {α:Type} {l:List α} {j:Nat} {a:α} (h:l[j]? =some a):l.set j a=l:=by
 obtain ⟨hlt,rfl⟩:=List.getElem?_eq_some_iff.1 h
 exact List.set_getElem_self hlt
section
variable {P:Program} {E:Au} {hp:AA} {d:Option Tmp} {ty:TypeId} {pos:String} {af:Array Edge} {g:Option (Nat×Bool)}
variable {x:Operand} {t:TypeId}
theorem S7 {w:World} {gb n:Nat} {cur:Array Value} {e:TypeId} {fr:Nat×Nat} (h:w.heap[gb]? =some (.cells cur e fr)) (hf:Kl n fr):
  ∃fr',(w.freeze ⟨gb,n,none⟩ 1).heap[gb]? =some (.cells cur e fr')∧Kl n fr'∧(w.freeze ⟨gb,n,none⟩ 1).heap.size=w.heap.size∧(∀k,k≠gb→(w.freeze ⟨gb,n,none⟩ 1).heap[k]? =w.heap[k]?)∧B8 w (w.freeze ⟨gb,n,none⟩ 1):=by
 unfold World.freeze
 rw [if_neg (by decide)]
 refine ⟨if fr.1==fr.2 then (n,n+1)else (min fr.1 n,max fr.2 (n+1)),?_,?_,by simp,?_,⟨rfl,rfl,rfl⟩⟩
 ·simp [Array.getElem?_modify,h]
 ·split
  ·exact .inr (Nat.le_refl _)
  ·rename_i hne
   rcases hf with hf | hf
   ·exact absurd hf (by simpa using hne)
   ·exact .inr (by simp only;omega)
 ·intro k hk
  simp [Array.getElem?_modify,Ne.symm hk]
theorem Lz {B:Nat} {h0:AA} {rs:List AE} (st:St B h0 hp rs) (j:Nat) {e:TypeId} {A:Addr} {n c:Nat} {vs:List Value} (hj:rs[j]? =some (row e 1 (.slice (some A) n c) vs)) (hx:ev E x=some (.slice (some A) n c)) (ht:LP P t=true):
  Bd P ⟨d,.convert t t x,ty,pos,af,g⟩ E hp (fun u hp'=>u= .slice (some A) n c∧St B h0 hp' rs):=by
 obtain ⟨S,hr,hSB⟩:=st.at_ hj
 intro m a w ho hw K hK
 subst hw
 rcases hr with ⟨hh,_⟩ | ⟨gb,n',cap,cur,fr,hh,h2,h3,h4,h5,h6,h7,h8,hS⟩
 ·cases hh
 ·cases hh
  obtain ⟨fr',k1,k2,k3,k4,k5⟩:=S7 (n:=cur.size) h2 h8
  have hrun:(execOp a.eval ⟨d,.convert t t x,ty,pos,af,g⟩).run P w= .ok (.value (.slice (some ⟨gb,0,none⟩) n c)) (w.freeze ⟨gb,cur.size,none⟩ 1):=by
   unfold LP at ht
   split at ht
   ·rename_i e' hu
    split at ht
    ·rename_i hue
     simp [execOp,ho.eval hx,convert,run_underlying hu,run_underlying hue,markStringish,shape,Sem.run,World.shape?,h2,freeze,pure]
    ·cases ht
   ·cases ht
  simp only [Oper.wp,hrun,Oper.upon]
  refine hK _ _ k5 ⟨rfl,?_⟩
  have:=st.upd hj (r':=row e 1 (.slice (some ⟨gb,0,none⟩) n c) vs) (hp':=(w.freeze ⟨gb,cur.size,none⟩ 1).heap) ⟨by rw [k3];exact Nat.le_refl _,fun S' hS'=> ?_⟩
  ·rwa [List.set_getElem?_self' hj]at this
  ·rcases hS' with ⟨hh,_⟩ | ⟨gb',n',cap,cur',fr2,hh,g2,g3,g4,g5,g6,g7,g8,gS⟩
   ·cases hh
   ·cases hh
    rw [h2]at g2
    cases g2
    refine ⟨S',.inr ⟨gb,n,c,cur,fr',rfl,k1,g3,g4,g5,g6,g7,k2,gS⟩,fun k hk=> .inl hk,fun k _ hk=>k4 k (fun e=>hk ((gS k).2 e))⟩
end
section
variable {P:Program} {E:Au} {hp:AA} {d:Option Tmp} {ty:TypeId} {pos:String} {af:Array Edge} {g:Option (Nat×Bool)}
variable {x:Operand} {t:TypeId}
theorem Jk {e bt len:Nat} {zv:Value} {parts:Array (Nat×Operand)} {ps:List (Nat×Value)} (cs:List Value) (hps:GQ E parts.toList=some ps) (ht:DA P t=some (e,1,bt,[zv]))
  (hn:Nat.ble (len*1) 16777216=true) (hs:Nat.blt 0 (len*1)=true) (hc:Jv len 1 [zv] ps=some cs.toArray) (hl:cs.length=len*1):
  Bd P ⟨d,.buildSlice t len parts,ty,pos,af,g⟩ E hp (fun u hp'=>EZ (row e 1 u cs) hp hp'):=by
 intro n a w ho hw K hK
 refine Ly hps ht hn hs hc n a w ho hw K fun v' w' hi ⟨h1,h2⟩=>hK v' w' hi ?_
 rw [h1,h2]
 have:=Nat.le_of_ble_eq_true hn
 exact KS hp e 1 len cs hl (by simp only [maxLen];omega)
end
section
variable {P:Program} {E:Au} {hp:AA} {cl:Ca} {d:Option Tmp} {ty:TypeId} {pos:String} {af:Array Edge} {g:Option (Nat×Bool)}
variable {x:Operand} {t:TypeId}
end
section
variable {P:Program} {E:Au} {hp:AA} {cl:Ca} {d:Option Tmp} {ty:TypeId} {pos:String} {af:Array Edge} {g:Option (Nat×Bool)}
variable {x:Operand} {t:TypeId}
theorem AZ {parts:Array (Nat×Operand)} {ps:List (Nat×Value)} {cs:Array Value} (hps:GQ E parts.toList=some ps) (h:P.built t ps=some cs):BB cl P ⟨d,.build t parts,ty,pos,af,g⟩ E hp (.agg cs):=
 .of_pure fun n a ho w'=>by
  have hp1:(parts.map fun (i,x)=>(i,a.eval x)).toList=ps:=by
   rw [Array.toList_map];exact ho.parts hps
  have:=run_build (P:=P) w' t (parts.map fun (i,x)=>(i,a.eval x)) cs (by rw [hp1];exact h)
  simp only [execOp,Sem.run_bind,this,Result.andThen_ok];rfl
end
end Go.Bn
end

section
namespace Go.Bn
open Go
section
variable {P:Program} {E:Au} {hp:AA} {cl:Ca} {d:Option Tmp} {ty:TypeId} {pos:String} {af:Array Edge} {g:Option (Nat×Bool)}
variable {x y:Operand} {t t':TypeId}
theorem Ka {e sz b:Nat} {zs:List Value} {B:Nat} {h0:AA} {rs:List AE} (st:St B h0 hp rs) (j:Nat) {gb o n c n' c' m c2:Nat} {A:Option Addr} {vs news:List Value} (hj:rs[j]? =some (row e sz (.slice (some ⟨gb,0,none⟩) n c) vs)) (hn:Rd hp A news) (hl:news.length=m*sz)
  (h1:∀u∈news,Value.one u=true) (hle:o+min m n'*sz≤vs.length) (hx:ev E x=some (.slice (some ⟨gb,o,none⟩) n' c')) (hy:ev E y=some (.slice A m c2)) (ht:DA P t=some (e,sz,b,zs)) {ts:Array TypeId} (hts:ts= #[t,t']):
  Bd P ⟨d,.call ⟨.builtin .copy,#[x,y],ts⟩,ty,pos,af,g⟩ E hp (fun v hp'=>v= .int .i64 ((min m n':Nat):Int)∧St B h0 hp' (rs.set j (row e sz (.slice (some ⟨gb,0,none⟩) n c) (vs.take o++news.take (min m n'*sz)++vs.drop (o+min m n'*sz))))):=by
 obtain ⟨S,hr,hSB⟩:=st.at_ hj
 intro k a w ho hw K hK
 subst hw hts
 obtain ⟨i,z,hu,hi,hz,hsz,_,hzc⟩:=FW ht
 subst hsz
 rcases hr with ⟨hh,_⟩ | ⟨g',nn,cap,cur,fr,hh,h2,h3,h4,h5,h6,h7,h8,hS⟩
 ·cases hh
 ·cases hh
  have hnl:(news.take (min m n'*i.size)).length=min m n'*i.size:=by
   rw [List.length_take,hl];exact Nat.min_eq_left (Nat.mul_le_mul_right _ (Nat.min_le_left _ _))
  have hcur:vs.length≤cur.size:=by rw [h7,h5];exact Nat.mul_le_mul_right _ h3
  obtain ⟨w',hst,hinv,hsz',hoth,hnew⟩:=IQ (P:=P) (p:=gb) (o:=o) (e:=e) (fr:=fr) (news.take (min m n'*i.size)) 0 cur w (fun u hu=>h1 u (List.mem_of_mem_take hu)) h2 (by rw [hnl];omega) h8
  have hfc:(Builtin.firstCells i.size (min m n') (.slice A m c2)).run P w= .ok (news.take (min m n'*i.size)).toArray w:=by
   cases A with
   | none=>
    have hne:news=[]:=by
     rcases hn with h | ⟨_,_,h,_⟩
     ·exact h
     ·cases h
    subst hne
    simp [Builtin.firstCells]
   | some ad=>
    refine run_firstCells_some (P:=P) w i.size (min m n') ad m c2 _ hnl fun q u hu=> ?_
    rw [List.getElem?_take]at hu
    split at hu
    ·exact Ke hn rfl q u hu
    ·cases hu
  have hrun:(execOp a.eval ⟨d,.call ⟨.builtin .copy,#[x,y],#[t,t']⟩,ty,pos,af,g⟩).run P w= .ok (.value (.int .i64 ((min m n':Nat):Int))) w':=by
   have hm:Nat.min m n'=min m n':=rfl
   simp [execOp,resolve,ho.eval hx,ho.eval hy,invoke,builtin,Builtin.copy_,run_underlying hu,sizeOf,typeInfo,hi,Builtin.lenOf,hm,hfc,hst,goInt]
  simp only [Oper.wp,hrun,Oper.upon]
  refine hK _ _ hinv ⟨rfl,st.upd hj ⟨by rw [hsz'];exact Nat.le_refl _,fun S' hS'=> ?_⟩⟩
  have hSg:∀k,S' k↔k=gb:=by
   rcases hS' with ⟨hh,_⟩ | ⟨g',n',cap',cur',fr',hh,_,_,_,_,_,_,_,hS''⟩
   ·cases hh
   ·cases hh;exact hS''
  simp only [Nat.add_zero,hnl]at hnew
  have hle2:o+min m n'*i.size≤cur.size:=by omega
  refine ⟨S',.inr ⟨gb,n,c,_,fr,rfl,hnew,h3,h4,?_,?_,?_,?_,hSg⟩,fun k hk=> .inl hk,fun k _ hk=>hoth k (fun h=>hk ((hSg k).2 h))⟩
  ·simp only [List.size_toArray,List.length_append,List.length_take,List.length_drop,Array.length_toList,hl]
   have:min (min m n'*i.size) (m*i.size)=min m n'*i.size:=Nat.min_eq_left (Nat.mul_le_mul_right _ (Nat.min_le_left _ _))
   omega
  ·rw [←h7,←h6]
   generalize hq:n*i.size=q at*
   apply List.ext_getElem?
   intro r
   have hlen3:vs.length=q:=h7
   have e1:(cur.toList.take o).length=o:=by rw [List.length_take,Array.length_toList];omega
   have e2:((cur.toList.take q).take o).length=o:=by rw [List.length_take,List.length_take,Array.length_toList];omega
   rw [List.getElem?_take]
   have eL:(cur.toList.take q).length=q:=by rw [List.length_take,Array.length_toList];omega
   rw [eL]
   simp only [List.getElem?_append,e1,e2,List.length_append,hnl,List.getElem?_take,List.getElem?_drop]
   by_cases c1:r<o
   ·simp [c1,show r<o+min m n'*i.size by omega,show r<q by omega]
   ·by_cases c2:r<o+min m n'*i.size
    ·simp [c1,c2,show r<q by omega,show r-o<min m n'*i.size by omega]
    ·by_cases c3:r<q
     ·simp [c1,c2,c3,show o+min m n'*i.size+(r - (o+min m n'*i.size))=r by omega]
     ·simp [c1,c2,c3,show o+min m n'*i.size+(r - (o+min m n'*i.size))=r by omega]
  ·rw [List.length_append,List.length_append,List.length_take,List.length_drop,hnl,←h7];omega
  ·have:((cur.toList.take o++news.take (min m n'*i.size)++cur.toList.drop (o+min m n'*i.size)).toArray).size=cur.size:=by
    simp only [List.size_toArray,List.length_append,List.length_take,List.length_drop,Array.length_toList,hl]
    have:min (min m n'*i.size) (m*i.size)=min m n'*i.size:=Nat.min_eq_left (Nat.mul_le_mul_right _ (Nat.min_le_left _ _))
    omega
   rw [this];exact h8
def Sn (P : Program) (s f : Nat) (cs : List Value) : Option Value :=
  match P.underlying s with
  | some (.struct fs) => match fs[f]? with
    | some fl => match D6 P fl.type with
      | true => cs[fl.offset]?
      | false => match Dx P fl.type with
        | some n => some (.agg ((cs.drop fl.offset).take n).toArray)
        | none => none
    | none => none
  | _ => none
theorem Vn {n:Nat} (h:Dx P t=some n) (w:World):(isAgg t).run P w= .ok true w:=by
 unfold Dx at h
 split at h
 ·rename_i fs hu;simp [isAgg,run_underlying hu]
 ·rename_i hu;simp [isAgg,run_underlying hu]
 ·cases h
theorem Le {s f:Nat} {ca:Array Value} {v:Value} (hx:ev E x=some (.agg ca)) (hf:Sn P s f ca.toList=some v):BB cl P ⟨d,.field s x f,ty,pos,af,g⟩ E hp v:=
 .of_pure fun n a ho w'=>by
  unfold Sn at hf
  split at hf
  ·rename_i fs hu
   split at hf
   ·rename_i fl hfl
    split at hf
    ·rename_i h1
     simp only [Array.getElem?_toList]at hf
     simp [execOp,ho.eval hx,Instr.field,run_underlying hu,hfl,part,N2 h1,hf,asAgg]
    ·split at hf
     ·rename_i n hn
      cases hf
      have e:ca.extract fl.offset (fl.offset+n)=((ca.toList.drop fl.offset).take n).toArray:=by
       apply Array.ext'
       simp [List.take_drop]
      simp [execOp,ho.eval hx,Instr.field,run_underlying hu,hfl,part,Vn hn,N3 hn,e,asAgg]
     ·cases hf
   ·cases hf
  ·cases hf
theorem bz {xs ys:Array Value} {r:Bool} (hx:ev E x=some (.agg xs)) (hy:ev E y=some (.agg ys)) (h:∀w:World,(binOp .eql t (.agg xs) (.agg ys)).run P w= .ok (.bool r) w) (hg:P.eqGuardType P.depth t=false):BB cl P ⟨d,.binOp .eql t x y t',ty,pos,af,g⟩ E hp (.bool r):=
 .of_pure fun n a ho w'=>by
  simp only [execOp,ho.eval hx,ho.eval hy,Sem.run_bind,run_eqGuard_agg (P:=P) w' .eql t x y xs ys hg,Result.andThen_ok,h];rfl
theorem UX {xs ys:Array Value} {r:Bool} (hx:ev E x=some (.agg xs)) (hy:ev E y=some (.agg ys)) (h:∀w:World,(binOp .neq t (.agg xs) (.agg ys)).run P w= .ok (.bool r) w) (hg:P.eqGuardType P.depth t=false):BB cl P ⟨d,.binOp .neq t x y t',ty,pos,af,g⟩ E hp (.bool r):=
 .of_pure fun n a ho w'=>by
  simp only [execOp,ho.eval hx,ho.eval hy,Sem.run_bind,run_eqGuard_agg (P:=P) w' .neq t x y xs ys hg,Result.andThen_ok,h];rfl
end
end Go.Bn
end

section
namespace Go.Bn
open Go
section
variable {P:Program} {E:Au} {hp:AA} {cl:Ca} {d:Option Tmp} {ty:TypeId} {pos:String} {af:Array Edge} {g:Option (Nat×Bool)}
variable {x y:Operand} {t t':TypeId}
def KK (P:Program) (t:TypeId):Bool:=match P.underlying t with | some (.int _)=>true | _=>false
theorem RE (m:Nat) (z:Value):Builtin.zeroCells #[z] m=(List.replicate m z).toArray:=by
 unfold Builtin.zeroCells
 apply Array.ext
 ·simp
 ·intro i h1 h2
  simp [Nat.mod_one]
theorem eF {e b m:Nat} {zv:Value} {v:Value} {vs:List Value} {S:Nat→Prop} {w:World} (ht:DA P t=some (e,1,b,[zv])) (hti:KK P t'=true) (hr:Hv e 1 v vs w.heap S)
  (hm:0<m) (hone:Value.one zv=true) (hb0:0<b) (hb:(vs.length+m)*b≤140737488355328):
  ∃v' w',(Builtin.append_ #[t,t'] ty #[v,.int .i64 (m:Int)]).run P w= .ok v' w'∧B8 w w'∧HR (row e 1 v vs) w.heap (row e 1 v' (vs++List.replicate m zv)) w'.heap:=by
 obtain ⟨i,z,hu,hi,hz,hs,hbz,hzc⟩:=FW ht
 subst hbz
 have hzc':z.cells= #[zv]:=hzc
 obtain ⟨k',hti'⟩:∃k',P.underlying t'=some (.int k'):=by
  unfold KK at hti
  split at hti
  ·exact ⟨_,by assumption⟩
  ·cases hti
 have hlen:vs.length+m≤140737488355328:=Nat.le_trans (Nat.le_mul_of_pos_right _ hb0) hb
 have hw:IntKind.i64.wrap (m:Int)=m:=IntWalk.i64_in _ (by omega)
 have hneg:¬ ((m:Int)<0):=by omega
 have hmb:¬ ((m:Int)*(i.bytes:Int)>281474976710656):=by
  have:m*i.bytes≤(vs.length+m)*i.bytes:=Nat.mul_le_mul_right _ (by omega)
  rw [←Int.natCast_mul];omega
 have hm0:m≠0:=by omega
 rcases hr with ⟨rfl,rfl,_⟩ | ⟨gb,n,cap,cur,fr,rfl,h2,h3,h4,h5,h6,h7,h8,hS⟩
 ·have hlen':m≤140737488355328:=by omega
  have hge:=grownCap_ge w m 0 e
  have hcm:=grownCap_le_maxLen w m 0 e (by simp only [maxLen];omega)
  have h63':¬ (9223372036854775807 < (m:Int)):=by omega
  have hfit:Builtin.nextslicecap m 0*i.bytes≤281474976710656:=growslice_fits (by omega) (by simpa using hb)
  have h48':¬ (281474976710656<Builtin.nextslicecap m 0*i.bytes):=by omega
  refine ⟨.slice (some ⟨w.heap.size,0,none⟩) m (grownCap w m 0 e),w.drew.alloc (.cells (List.replicate m zv++List.replicate (grownCap w m 0 e-m) zv).toArray e),?_,⟨rfl,rfl,rfl⟩,?_⟩
  ·simp [Builtin.append_,Builtin.firstCells,run_underlying hu,run_underlying hti',sizeOf,typeInfo,hi,hs,asInt,asIntOf,hw,hneg,hmb,hm0,zeroValue,hz,hzc',RE,h63',h48',Question.forced,newRow,grownCap]
  ·refine ⟨(Fg _ _).size,fun S hS=>⟨fun k=>k=w.heap.size,.inr ⟨w.heap.size,m,_,_,(0,0),rfl,Jn _ _,hge,hcm,?_,?_,?_,.inl rfl,fun _=>Iff.rfl⟩,fun k hk=> .inr (by omega),fun k hk _=>(Fg _ _).blk k hk⟩⟩
   ·simp only [List.size_toArray,List.length_append,List.length_replicate];omega
   ·exact List.take_left' (by simp)
   ·simp
 ·have hn:vs.length=n:=by rw [h7,Nat.mul_one]
  by_cases hroom:n+m≤cap
  ·obtain ⟨w',hst,hinv,hsz',hoth,hnew⟩:=IQ (P:=P) (p:=gb) (o:=n) (e:=e) (fr:=fr) (List.replicate m zv) 0 cur w (fun u hu=>by rw [List.eq_of_mem_replicate hu];exact hone) h2 (by simp;omega) h8
   refine ⟨.slice (some ⟨gb,0,none⟩) (n+m) cap,w',?_,hinv,by rw [hsz'];exact Nat.le_refl _,fun S' hS'=> ?_⟩
   ·simp [Builtin.append_,run_underlying hu,run_underlying hti',sizeOf,typeInfo,hi,hs,asInt,asIntOf,hw,hneg,hmb,hroom,hm0,zeroValue,hz,hzc',RE,E6,hst]
   ·have hSg:∀k,S' k↔k=gb:=by
     rcases hS' with ⟨hh,_⟩ | ⟨g',n',cap',cur',fr',hh,_,_,_,_,_,_,_,hS''⟩
     ·cases hh
     ·cases hh;exact hS''
    simp only [Nat.add_zero]at hnew
    have hrl:(List.replicate m zv).length=m:=by simp
    refine ⟨S',.inr ⟨gb,n+m,cap,_,fr,rfl,hnew,hroom,h4,?_,?_,?_,?_,hSg⟩,fun k hk=> .inl hk,fun k _ hk=>hoth k (fun h=>hk ((hSg k).2 h))⟩
    ·simp only [List.size_toArray,List.length_append,List.length_take,List.length_drop,Array.length_toList,hrl]
     omega
    ·have e1:cur.toList.take n=vs:=by rw [←h6,Nat.mul_one]
     rw [e1,Nat.mul_one]
     exact List.take_left' (by rw [List.length_append,hn,hrl])
    ·rw [List.length_append,hn,hrl];omega
    ·have:((cur.toList.take n++List.replicate m zv++cur.toList.drop (n+(List.replicate m zv).length)).toArray).size=cur.size:=by
      simp only [List.size_toArray,List.length_append,List.length_take,List.length_drop,Array.length_toList,hrl]
      omega
     rw [this];exact h8
  ·have holds:∀ (j:Nat) (u:Value),vs[j]? =some u→w.cell? ((⟨gb,0,none⟩:Addr).add j)=some u:=by
    intro j u hu'
    rw [E6,Ol]
    simp only [Az,h2,Nat.zero_add]
    rw [←h6,List.getElem?_take]at hu'
    split at hu'
    ·simpa using hu'
    ·cases hu'
   have hfo:=run_firstCells_some (P:=P) w.drew 1 n ⟨gb,0,none⟩ n cap vs h7 (by simpa using holds)
   have hge:=grownCap_ge w (n+m) cap e
   have hcm:=grownCap_le_maxLen w (n+m) cap e (by simp only [maxLen];omega)
   have h63':¬ (9223372036854775807 < ((n:Int)+(m:Int))):=by omega
   have hfit:Builtin.nextslicecap (n+m) cap*i.bytes≤281474976710656:=growslice_fits (by omega) (by rw [←hn];exact hb)
   have h48':¬ (281474976710656<Builtin.nextslicecap (n+m) cap*i.bytes):=by omega
   refine ⟨.slice (some ⟨w.heap.size,0,none⟩) (n+m) (grownCap w (n+m) cap e),w.drew.alloc (.cells (vs++List.replicate m zv++List.replicate (grownCap w (n+m) cap e - (n+m)) zv).toArray e),?_,⟨rfl,rfl,rfl⟩,?_⟩
   ·simp [Builtin.append_,run_underlying hu,run_underlying hti',sizeOf,typeInfo,hi,hs,asInt,asIntOf,hw,hneg,hmb,hroom,hm0,zeroValue,hz,hzc',RE,h63',h48',Question.forced,hfo,newRow,grownCap]
    congr 2
    apply Array.ext'
    simp
   ·refine ⟨(Fg _ _).size,fun S hS=>⟨fun k=>k=w.heap.size,.inr ⟨w.heap.size,n+m,_,_,(0,0),rfl,Jn _ _,hge,hcm,?_,?_,?_,.inl rfl,fun _=>Iff.rfl⟩,fun k hk=> .inr (by omega),fun k hk _=>(Fg _ _).blk k hk⟩⟩
    ·simp only [List.size_toArray,List.length_append,List.length_replicate,hn];omega
    ·exact List.take_left' (by simp [hn])
    ·simp [hn]
theorem P0 {e b m:Nat} {zv v:Value} {vs:List Value} {B:Nat} {h0:AA} {rs:List AE} (st:St B h0 hp rs) (j:Nat) (hj:rs[j]? =some (row e 1 v vs)) (hm:0<m) (hone:Value.one zv=true) (hb:(vs.length+m)*b≤140737488355328)
  (hx:ev E x=some v) (hy:ev E y=some (.int .i64 (m:Int))) (ht:DA P t=some (e,1,b,[zv])) (hti:KK P t'=true) (hb0:Nat.blt 0 b=true) {ts:Array TypeId} (hts:ts= #[t,t']):
  Bd P ⟨d,.call ⟨.builtin .append,#[x,y],ts⟩,ty,pos,af,g⟩ E hp (fun v' hp'=>St B h0 hp' (rs.set j (row e 1 v' (vs++List.replicate m zv)))):=by
 intro n a w ho hw K hK
 subst hw hts
 obtain ⟨S,hS,_⟩:=st.at_ hj
 obtain ⟨v',w',hrun,hinv,hupd⟩:=eF (ty:=ty) ht hti hS hm hone (by simpa [Nat.blt_eq]using hb0) hb
 have hrun':(execOp a.eval ⟨d,.call ⟨.builtin .append,#[x,y],#[t,t']⟩,ty,pos,af,g⟩).run P w= .ok (.value v') w':=by
  simp [execOp,resolve,ho.eval hx,ho.eval hy,invoke,builtin,hrun]
 simp only [Oper.wp,hrun',Oper.upon]
 exact hK v' w' hinv (st.upd hj hupd)
theorem Uc {e b m:Nat} {zv v:Value} {vs:List Value} {B:Nat} {h0:AA} {rs:List AE} (st:St B h0 hp rs) (j:Nat) (hj:rs[j]? =some (row e 1 v vs)) (hpos:0<vs.length) (hm:0<m) (hone:Value.one zv=true) (hb:(vs.length+m)*b≤140737488355328)
  (hx:ev E x=some v) (hy:ev E y=some (.int .i64 (m:Int))) (ht:DA P t=some (e,1,b,[zv])) (hti:KK P t'=true) (hb0:Nat.blt 0 b=true) {ts:Array TypeId} (hts:ts= #[t,t']):
  Bd P ⟨d,.call ⟨.builtin .append,#[x,y],ts⟩,ty,pos,af,g⟩ E hp (fun v' hp'=>St B h0 hp' (rs.set j (row e 1 v' (vs++List.replicate m zv)))):=P0 st j hj hm hone hb hx hy ht hti hb0 hts
def Rl (P : Program) (t : TypeId) : Option Nat := match P.underlying t with
  | some (.array n e) => match D6 P e with
    | true => some n
    | false => none
  | _ => none
theorem Lj {i n:Nat} {k:IntKind} {ca:Array Value} {v:Value} (hx:ev E x=some (.agg ca)) (hy:ev E y=some (.int k (i:Int))) (ht:Rl P t=some n) (hi:i<n) (hv:ca[i]? =some v):BB cl P ⟨d,.index t x y,ty,pos,af,g⟩ E hp v:=
 .of_pure fun _ a ho w'=>by
  unfold Rl at ht
  split at ht
  ·rename_i n' e hu
   split at ht
   ·rename_i h1
    cases ht
    have hlt:(i:Int) < (n:Int):=by omega
    simp [execOp,ho.eval hx,ho.eval hy,Instr.index,asIntOf,run_underlying hu,hi,part,N2 h1,Vr h1,hv]
   ·cases ht
  ·cases ht
end
section
variable {P:Program} {E:Au} {hp:AA} {cl:Ca} {d:Option Tmp} {ty:TypeId} {pos:String} {af:Array Edge} {g:Option (Nat×Bool)}
variable {x y:Operand} {t t':TypeId}
theorem Ue {e sz b:Nat} {zs:List Value} {B:Nat} {h0:AA} {rs:List AE} (st:St B h0 hp rs) (j:Nat) {n c m c2:Nat} {A0 A:Option Addr} {vs news:List Value} (hj:rs[j]? =some (row e sz (.slice A0 n c) vs)) (hn:Rd hp A news) (hl:news.length=m*sz) (hv:vs.length=n*sz)
  (h1:∀u∈news,Value.one u=true) (hx:ev E x=some (.slice A0 n c)) (hy:ev E y=some (.slice A m c2)) (ht:DA P t=some (e,sz,b,zs)) {ts:Array TypeId} (hts:ts= #[t,t']):
  Bd P ⟨d,.call ⟨.builtin .copy,#[x,y],ts⟩,ty,pos,af,g⟩ E hp (fun v hp'=>v= .int .i64 ((min m n:Nat):Int)∧St B h0 hp' (rs.set j (row e sz (.slice A0 n c) (news.take (min m n*sz)++vs.drop (min m n*sz))))):=by
 intro k a w ho hw K hK
 obtain ⟨S,hr,_⟩:=st.at_ hj
 rcases hr with ⟨hh,hvs,_⟩ | ⟨gb,n',cap,cur,fr,hh,_⟩
 ·cases hh
  subst hw hts hvs
  obtain ⟨i,z,hu,hi,hz,hsz,_,hzc⟩:=FW ht
  have hrun:(execOp a.eval ⟨d,.call ⟨.builtin .copy,#[x,y],#[t,t']⟩,ty,pos,af,g⟩).run P w= .ok (.value (.int .i64 0)) w:=by
   have hm:Nat.min m 0=0:=Nat.min_zero m
   have hf:(Builtin.firstCells i.size 0 (.slice A m c2)).run P w= .ok #[] w:=by
    cases A <;> simp [Builtin.firstCells,loadCells,loadCellsFrom]
   simp [execOp,resolve,ho.eval hx,ho.eval hy,invoke,builtin,Builtin.copy_,run_underlying hu,sizeOf,typeInfo,hi,Builtin.lenOf,hm,hf,goInt]
  simp only [Oper.wp,hrun,Oper.upon]
  refine hK _ _ ⟨rfl,rfl,rfl⟩ ⟨by simp,?_⟩
  have e1:news.take (min m 0*sz)++([]:List Value).drop (min m 0*sz)=[]:=by simp
  rw [e1,List.set_getElem?_self' hj]
  exact st
 ·cases hh
  have:=Ka (P:=P) (E:=E) (d:=d) (ty:=ty) (pos:=pos) (af:=af) (g:=g) (t':=t') st j (o:=0) (n':=n) (c':=c) hj hn hl h1 (by rw [Nat.zero_add,hv];exact Nat.mul_le_mul_right _ (Nat.min_le_right _ _)) hx hy ht hts k a w ho hw K
  refine this fun v' w' hi h=>hK v' w' hi ?_
  simpa using h
end
end Go.Bn
end

section
namespace Go.Bn
open Go
theorem St.row0 {B:Nat} {h0 hp:AA} {rs:List AE} (s:St B h0 hp rs) (j:Nat) {e sz:Nat} {v:Value} {vs:List Value} (hj:rs[j]? =some (Bn.row e sz v vs)) (hpos:0<vs.length):
  ∃g n c,v= .slice (some ⟨g,0,none⟩) n c∧vs.length=n*sz∧n≤c∧c≤maxLen∧Rd hp (some ⟨g,0,none⟩) vs:=by
 obtain ⟨A,n,c,rfl,h1,h2,h3,h4⟩:=s.row j hj
 obtain ⟨S,h,_⟩:=s.at_ hj
 rcases h with ⟨_,hv,_⟩ | ⟨g,n',cap,cur,fr,he,_⟩
 ·subst hv;simp at hpos
 ·cases he
  exact ⟨g,n,c,rfl,h1,h2,h3,h4⟩
theorem St.part {B:Nat} {h0 hp:AA} {rs:List AE} (s:St B h0 hp rs) (j o:Nat) (pre vs post:List Value) (ho:pre.length=o) {p:Nat} {T:TypeId} (hj:rs[j]? =some (pt p T (pre++(vs++post)))):∀i u,vs[i]? =some u→Az hp ⟨p,o+i,none⟩=some u:=by
 intro i u hu
 refine s.cell j hj ?_
 rw [List.getElem?_append_right (by omega),ho,Nat.add_sub_cancel_left,List.getElem?_append_left (List.getElem?_eq_some_iff.1 hu).1]
 exact hu
theorem eK {P:Program} {t:TypeId} {xs ys:Array Value} {w:World} {r:Bool} (h:(binOp .eql t (.agg xs) (.agg ys)).run P w= .ok (.bool r) w):(binOp .neq t (.agg xs) (.agg ys)).run P w= .ok (.bool (!r)) w:=by
 rw [run_eql_struct]at h
 rw [run_neq_struct]
 cases hq:(Op.equalIn 10000 t (.agg xs) (.agg ys)).run P w with
 | ok b w'=>rw [hq]at h;simp [Result.andThen]at h;obtain ⟨rfl,rfl⟩:=h;rfl
 | halt h1 w'=>rw [hq]at h;simp [Result.andThen]at h
section
variable {P:Program} {E:Au} {hp:AA} {cl:Ca} {d:Option Tmp} {ty:TypeId} {pos:String} {af:Array Edge} {g:Option (Nat×Bool)}
variable {x y:Operand} {t t':TypeId}
theorem Jf {i:Nat} {k:IntKind} {s:ByteArray} {b:UInt8} (hx:ev E x=some (.string s)) (hy:ev E y=some (.int k (i:Int))) (ht:Ed P t=true) (hb:s[i]? =some b):BB cl P ⟨d,.index t x y,ty,pos,af,g⟩ E hp (.int .u8 (b.toNat:Int)):=
 .of_pure fun _ a ho w'=>by
  unfold Ed at ht
  split at ht
  ·rename_i hu
   simp [execOp,ho.eval hx,ho.eval hy,Instr.index,asIntOf,run_underlying hu,hb]
  ·cases ht
theorem GN {gb o sz m:Nat} (h:m≠o):Eb (some ⟨gb,0,none⟩) o sz m=some ⟨gb,o*sz,none⟩:=by
 unfold Eb
 rw [if_neg h]
 simp [E6]
end
end Go.Bn
end

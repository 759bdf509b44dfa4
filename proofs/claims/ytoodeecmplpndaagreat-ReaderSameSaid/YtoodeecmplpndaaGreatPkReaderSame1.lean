/- Packed texts of a claim: what its theorem uses, joined. -/
import Derived.Orders
import Derived.OrdersIn
import Derived.RangeFuncLeaves
import Derived.RangeFuncRecord
import Derived.KernelRfl
import Derived.Tactics
import Derived.Below
section
namespace Go.Bn
open Go
abbrev Heap := Array Obj
abbrev Env := List (Nat × Value)
def Env.get : Env → Nat → Option Value
  | [], _ => none
  | (i, v) :: r, j => match Nat.beq i j with | true => some v | false => Env.get r j
def Env.putD : Env → Option Nat → Value → Env
  | E, some d, v => (d, v) :: E
  | E, none, _ => E
def ev (E : Env) : Operand → Option Value
  | .tmp t => E.get t
  | .const v => some v
  | .global g => some (.pointer (some ⟨g, 0, none⟩))
  | .func f => some (.func (.func f) #[] #[])
def evs (E : Env) : List Operand → Option (List Value)
  | [] => some []
  | x :: r => match ev E x with
    | some v => match evs E r with
      | some vs => some (v :: vs)
      | none => none
    | none => none
def fits (n : Nat) : Option Nat → Bool
  | some d => Nat.blt d n
  | none => true
structure OK (n : Nat) (E : Env) (a : Act) : Prop where
  size : a.tmps.size = n
  get : ∀ i v, E.get i = some v → a.tmps[i]? = some v
theorem OK.eval {n : Nat} {E : Env} {a : Act} (h : OK n E a) {x : Operand} {v : Value} (hx : ev E x = some v) : a.eval x = v := by
 cases x with
 | tmp t => simp [Act.eval, h.get t v hx]
 | const u => simpa [ev, Act.eval] using hx
 | global g => simpa [ev, Act.eval] using hx
 | func g => simpa [ev, Act.eval] using hx
theorem OK.evals {n : Nat} {E : Env} {a : Act} (h : OK n E a) : ∀ {l : List Operand} {vs : List Value}, evs E l = some vs → l.map a.eval = vs
 | [], vs, hx => by simpa [evs] using hx
 | x :: r, vs, hx => by
  simp only [evs] at hx
  split at hx
  ·rename_i v hv
   split at hx
   ·rename_i us hu
    cases hx
    rw [List.map_cons, h.eval hv, h.evals hu]
   ·cases hx
  ·cases hx
theorem Env.get_cons (i : Nat) (v : Value) (E : Env) (j : Nat) : Env.get ((i, v) :: E) j = if i = j then some v else Env.get E j := by
 simp only [Env.get]
 cases h : Nat.beq i j with
 | true => simp [Nat.eq_of_beq_eq_true h]
 | false => simp [Nat.ne_of_beq_eq_false h]
theorem OK.put {n : Nat} {E : Env} {a : Act} (h : OK n E a) {d : Option Nat} (v : Value) (hd : fits n d = true) : OK n (E.putD d v) (a.put d v) := by
 cases d with
 | none => exact h
 | some d =>
  have hd' : d < a.tmps.size := by rw [h.size]; simpa [fits, Nat.blt_eq] using hd
  refine ⟨by simp [Act.put, h.size], fun i u hu => ?_⟩
  simp only [Env.putD, Env.get_cons] at hu
  by_cases hi : d = i
  ·subst hi
   simp at hu
   subst hu
   simp [Act.put, hd']
  ·rw [if_neg hi] at hu
   simp [Act.put, Array.getElem?_setIfInBounds_ne hi, h.get i u hu]
def Sub (E' E : Env) : Prop := ∀ i v, E'.get i = some v → E.get i = some v
theorem Sub.nil (E : Env) : Sub [] E := fun i v h => by simp [Env.get] at h
theorem Sub.cons {E E' : Env} {i : Nat} {v : Value} (h : E.get i = some v) (hs : Sub E' E) : Sub ((i, v) :: E') E := fun j u hu => by
 rw [Env.get_cons] at hu
 by_cases hij : i = j
 ·subst hij; simp at hu; subst hu; exact h
 ·rw [if_neg hij] at hu; exact hs j u hu
theorem Sub.refl (E : Env) : Sub E E := fun _ _ h => h
theorem OK.sub {n : Nat} {E E' : Env} {a : Act} (h : OK n E a) (hs : Sub E' E) : OK n E' a := ⟨h.size, fun i v hv => h.get i v (hs i v hv)⟩
structure Inv (w w' : World) : Prop where
  os : w'.os = w.os
  tape : w'.tape = w.tape
  output : w'.output = w.output
theorem Inv.refl (w : World) : Inv w w := ⟨rfl, rfl, rfl⟩
theorem Inv.trans {a b c : World} (h : Inv a b) (k : Inv b c) : Inv a c := ⟨k.os.trans h.os, k.tape.trans h.tape, k.output.trans h.output⟩
structure Low (B : Nat) (h h' : Heap) : Prop where
  size : h.size ≤ h'.size
  blk : ∀ k, k < B → h'[k]? = h[k]?
theorem Low.refl (B : Nat) (h : Heap) : Low B h h := ⟨Nat.le_refl _, fun _ _ => rfl⟩
theorem Low.trans {B : Nat} {a b c : Heap} (h : Low B a b) (k : Low B b c) : Low B a c :=
 ⟨Nat.le_trans h.size k.size, fun i hi => (k.blk i hi).trans (h.blk i hi)⟩
theorem Low.mono {B B' : Nat} {a b : Heap} (h : Low B a b) (hB : B' ≤ B) : Low B' a b := ⟨h.size, fun k hk => h.blk k (Nat.lt_of_lt_of_le hk hB)⟩
abbrev Ext (h h' : Heap) : Prop := Low h.size h h'
theorem Ext.refl (h : Heap) : Ext h h := Low.refl _ _
theorem Ext.trans {a b c : Heap} (h : Ext a b) (k : Ext b c) : Ext a c := Low.trans h (k.mono h.size)
theorem Low.then_ext {B : Nat} {a b c : Heap} (h : Low B a b) (hB : B ≤ a.size) (k : Ext b c) : Low B a c := h.trans (k.mono (Nat.le_trans hB h.size))
theorem Low.below {w w' : World} {B : Nat} (hi : Inv w w') (h : Low B w.heap w'.heap) : RowKit.Below B w w' := ⟨hi.os, hi.tape, hi.output, h.size, h.blk⟩
def Ret (P : Program) (f : FuncId) (args : List Value) (hp : Heap) (Φ : Value → Heap → Prop) : Prop :=
  ∀ w : World, w.heap = hp → Calls P f args.toArray w (fun e w' => ∃ v, e = .returned v ∧ Inv w w' ∧ Φ v w'.heap)
theorem Ret.mono {P : Program} {f : FuncId} {args : List Value} {hp : Heap} {Φ Ψ : Value → Heap → Prop} (h : Ret P f args hp Φ) (hi : ∀ v hp', Φ v hp' → Ψ v hp') : Ret P f args hp Ψ :=
 fun w hw => (h w hw).mono fun _ _ ⟨v, he, hI, hf⟩ => ⟨v, he, hI, hi _ _ hf⟩
inductive SItem where
  | code (c : Code)
  | blk (id : Nat)
  | inv (J : Act → World → Prop)
theorem put_defers (a : Act) (d : Option Nat) (v : Value) : (a.put d v).defers = a.defers := by cases d <;> rfl
def wdF (r : Option Nat) : Fence := { Fence.wide with round := r }
theorem wdF_none : wdF none = Fence.wide := rfl
structure Cx where
  P : Program
  fn : Func
  Φ : Value → Heap → Prop
  w0 : World
  r : Option Nat
  D : List Deferred
  B : Exit → Act → World → Prop
  /-- May a region draw its order? -/
  pd : Bool := true
def Cx.R (c : Cx) (e : Ending) (w' : World) : Prop := ∃ v, e = .returned v ∧ Inv c.w0 w' ∧ c.Φ v w'.heap
@[reducible] def Cx.of (P : Program) (fn : Func) (Φ : Value → Heap → Prop) (w0 : World) : Cx :=
  ⟨P, fn, Φ, w0, none, [], bodyPostM Fence.wide 0 P fn fun e w' => ∃ v, e = .returned v ∧ Inv w0 w' ∧ Φ v w'.heap, true⟩
def SQ (c : Cx) : List SItem → Exit → Act → World → Prop
  | [], e, a, w => c.B e a w
  | .code x :: k, e, a, w => match e with
    | .normal => x.wpIn (wdF c.r) 0 c.P (SQ c k) a w
    | e => SQ c k e a w
  | .blk id :: k, e, a, w => match e with
    | .normal => SQ c k .normal a w
    | .exit j => if j = id then SQ c k .normal a w else SQ c k (.exit j) a w
    | e => SQ c k e a w
  | .inv J :: k, e, a, w => match e with
    | .normal => J a w
    | e => SQ c k e a w
def X (c : Cx) (k : List SItem) (E : Env) (hp : Heap) : Prop :=
  ∀ a w, (OK c.fn.ntmps E a ∧ a.defers = c.D) → Inv c.w0 w → w.heap = hp → SQ c k .normal a w
section
variable {c : Cx} {k : List SItem} {E : Env} {hp : Heap}
theorem X_seq {x y : Code} (h : X c (.code x :: .code y :: k) E hp) : X c (.code (.seq x y) :: k) E hp := by
 intro a w ho hi hw
 have := h a w ho hi hw
 show (Code.seq x y).wpIn (wdF c.r) 0 c.P (SQ c k) a w
 refine wpIn_seq (wpIn_mono this ?_)
 intro e a w he
 cases e <;> exact he
theorem X_skip (h : X c k E hp) : X c (.code .skip :: k) E hp := fun a w ho hi hw => wpIn_skip (h a w ho hi hw)
theorem X_label {l : Nat} (h : X c k E hp) : X c (.code (.label l) :: k) E hp := fun a w ho hi hw => wpIn_label (h a w ho hi hw)
theorem X_block {id : Nat} {x : Code} (h : X c (.code x :: .blk id :: k) E hp) : X c (.code (.block id x) :: k) E hp := by
 intro a w ho hi hw
 have := h a w ho hi hw
 show (Code.block id x).wpIn (wdF c.r) 0 c.P (SQ c k) a w
 refine wpIn_block (wpIn_mono this ?_)
 intro e a w he
 cases e <;> exact he
theorem X_blk {id : Nat} (h : X c k E hp) : X c (.blk id :: k) E hp := fun a w ho hi hw => h a w ho hi hw
def exitK (id : Nat) : List SItem → Option (List SItem)
  | [] => none
  | .code _ :: k => exitK id k
  | .inv _ :: k => exitK id k
  | .blk j :: k => match Nat.beq id j with | true => some k | false => exitK id k
theorem SQ_exit {id : Nat} : ∀ {k k' : List SItem}, exitK id k = some k' → ∀ a w, SQ c k' .normal a w → SQ c k (.exit id) a w
 | [], k', h => by simp [exitK] at h
 | .code _ :: k, k', h => fun a w hq => SQ_exit (k := k) h a w hq
 | .inv _ :: k, k', h => fun a w hq => SQ_exit (k := k) h a w hq
 | .blk j :: k, k', h => fun a w hq => by
  simp only [exitK] at h
  show (if id = j then SQ c k .normal a w else SQ c k (.exit id) a w)
  cases hb : Nat.beq id j with
  | true => rw [hb] at h; cases h; rw [if_pos (Nat.eq_of_beq_eq_true hb)]; exact hq
  | false => rw [hb] at h; rw [if_neg (Nat.ne_of_beq_eq_false hb)]; exact SQ_exit h a w hq
theorem X_exit {id : Nat} {k' : List SItem} (hk : exitK id k = some k') (h : X c k' E hp) : X c (.code (.exit id) :: k) E hp :=
 fun a w ho hi hw => wpIn_exit (SQ_exit hk a w (h a w ho hi hw))
theorem X_cond {x : Operand} {t e : Code} {b : Bool} (hx : ev E x = some (.bool b)) (ht : b = true → X c (.code t :: k) E hp) (hf : b = false → X c (.code e :: k) E hp) :
  X c (.code (.cond x t e) :: k) E hp := by
 intro a w ho hi hw
 refine wpIn_cond_split (ho.1.eval hx) (fun h => ?_) (fun h => ?_)
 ·exact wpIn_mono (ht h a w ho hi hw) (fun e a w he => by cases e <;> exact he)
 ·exact wpIn_mono (hf h a w ho hi hw) (fun e a w he => by cases e <;> exact he)
def LoopJ (c : Cx) {σ : Type} (μ : σ → Nat) (EI : σ → Env) (HI : σ → Heap → Prop) (s : σ) (a : Act) (w : World) : Prop :=
  ∃ s', μ s' < μ s ∧ (OK c.fn.ntmps (EI s') a ∧ a.defers = c.D) ∧ Inv c.w0 w ∧ HI s' w.heap
theorem X_loop {σ : Type} (μ : σ → Nat) (EI : σ → Env) (HI : σ → Heap → Prop) {body : Code} (s0 : σ) (hE : Sub (EI s0) E) (h0 : HI s0 hp)
  (round : ∀ s hp, HI s hp → X c (.code body :: .inv (LoopJ c μ EI HI s) :: k) (EI s) hp) : X c (.code (.loop body) :: k) E hp := by
 intro a w ho hi hw
 subst hw
 let J : Nat → Act → World → Prop := fun m a w => ∃ s, μ s = m ∧ (OK c.fn.ntmps (EI s) a ∧ a.defers = c.D) ∧ Inv c.w0 w ∧ HI s w.heap
 show (Code.loop body).wpIn (wdF c.r) 0 c.P (SQ c k) a w
 have hm : ∀ (a : Act) (w : World), (∃ m, J m a w) → ∃ m, J m a w ∧ ∀ m', m' < m → ¬ J m' a w := by
  intro a w ⟨m, hm⟩
  induction m using Nat.strongRecOn with
  | _ m ih =>
   by_cases h : ∃ m', m' < m ∧ J m' a w
   ·obtain ⟨m', hlt, hj⟩ := h; exact ih m' hlt hj
   ·exact ⟨m, hm, fun m' hlt hj => h ⟨m', hlt, hj⟩⟩
 refine wpIn_loop (fun a w => ∃ m, J m a w) (fun a w => Classical.epsilon fun m => J m a w ∧ ∀ m', m' < m → ¬ J m' a w) ⟨μ s0, s0, rfl, ⟨ho.1.sub hE, ho.2⟩, hi, h0⟩ ?_
 intro a w hJ
 have hs := Classical.epsilon_spec (hm a w hJ)
 generalize hg : (Classical.epsilon fun m => J m a w ∧ ∀ m', m' < m → ¬ J m' a w) = g at hs
 obtain ⟨⟨s, hμ, hok, hinv, hh⟩, _⟩ := hs
 have hr := round s w.heap hh a w hok hinv rfl
 refine wpIn_mono hr ?_
 intro e a' w' he
 cases e with
 | normal =>
  obtain ⟨s', hlt, hok', hinv', hh'⟩ := he
  have hJ' : ∃ m, J m a' w' := ⟨μ s', s', rfl, hok', hinv', hh'⟩
  refine ⟨hJ', ?_⟩
  have hs' := Classical.epsilon_spec (hm a' w' hJ')
  show (Classical.epsilon fun m => J m a' w' ∧ ∀ m', m' < m → ¬ J m' a' w') < _
  have hle : ¬ (μ s' < Classical.epsilon fun m => J m a' w' ∧ ∀ m', m' < m → ¬ J m' a' w') := fun hlt' => hs'.2 _ hlt' ⟨s', rfl, hok', hinv', hh'⟩
  omega
 | exit id => exact he
 | goto l => exact he
 | ret => exact he
 | panic ch => exact he
 | outgrown => exact he
theorem X_again {σ : Type} {μ : σ → Nat} {EI : σ → Env} {HI : σ → Heap → Prop} {s : σ} (s' : σ) (hE : Sub (EI s') E) (h : HI s' hp) (hlt : μ s' < μ s) :
  X c (.inv (LoopJ c μ EI HI s) :: k) E hp := fun _ _ ho hi hw => ⟨s', hlt, ⟨ho.1.sub hE, ho.2⟩, hi, by rw [hw]; exact h⟩
inductive RV (P : Program) (hp : Heap) (E : Env) : ResultVar → Value → Prop
  | tmp {t : Tmp} {v : Value} (h : E.get t = some v) : RV P hp E (.tmp t) v
  | cell {a : Tmp} {t : TypeId} {ad : Addr} {v : Value} (h : E.get a = some (.pointer (some ad))) (hl : ∀ w : World, w.heap = hp → (loadVar t ad).run P w = .ok v w) : RV P hp E (.cell a t) v
inductive RVs (P : Program) (hp : Heap) (E : Env) : List ResultVar → List Value → Prop
  | nil : RVs P hp E [] []
  | cons {r : ResultVar} {v : Value} {rs : List ResultVar} {vs : List Value} (h : RV P hp E r v) (t : RVs P hp E rs vs) : RVs P hp E (r :: rs) (v :: vs)
def resSem (tmps : Array Value) : ResultVar → Sem Value
  | .tmp t => pure (tmps.getD t undef)
  | .cell a t => do loadVar t (← asAddr (tmps.getD a undef))
theorem RV.run {P : Program} {n : Nat} {a : Act} {w : World} {r : ResultVar} {v : Value} (h : RV P hp E r v) (ho : OK n E a) (hw : w.heap = hp) : (resSem a.tmps r).run P w = .ok v w := by
 cases h with
 | tmp h => simp [resSem, ho.get _ _ h]
 | cell h hl => simp [resSem, ho.get _ _ h, asAddr, hl w hw]
theorem RVs.run {P : Program} {n : Nat} {a : Act} {w : World} (ho : OK n E a) (hw : w.heap = hp) : ∀ {rs : List ResultVar} {vs : List Value}, RVs P hp E rs vs →
  (List.mapM (m := Sem) (resSem a.tmps) rs).run P w = .ok vs w
 | _, _, .nil => by simp [List.mapM_nil, go_sem]
 | _, _, .cons (rs := rs) (vs := vs) h t => by
  have ih := RVs.run ho hw t
  have h1 := h.run ho hw
  simp only [List.mapM_cons, Sem.run_bind, h1, Result.andThen_ok, ih, Sem.run_pure]
def retVal : List Value → Value
  | [v] => v
  | vs => .tuple vs.toArray
theorem results_run {P : Program} {fn : Func} {n : Nat} {a : Act} {w : World} {vs : List Value} (ho : OK n E a) (hw : w.heap = hp) (h : RVs P hp E fn.results.toList vs) :
  (results fn a.tmps).run P w = .ok (retVal vs) w := by
 have hm : fn.results.mapM (m := Sem) (resSem a.tmps) = List.toArray <$> List.mapM (m := Sem) (resSem a.tmps) fn.results.toList := Array.mapM_eq_mapM_toList
 have he : (results fn a.tmps) = (do let vs ← fn.results.mapM (m := Sem) (resSem a.tmps); pure (if h : vs.size = 1 then vs[0] else .tuple vs)) := rfl
 rw [he, hm]
 simp only [Sem.run_bind, map_eq_pure_bind, RVs.run ho hw h, Result.andThen_ok, Sem.run_pure]
 congr 1
 match vs with
 | [] => rfl
 | [v] => rfl
 | _ :: _ :: _ => rfl
theorem post_plain {c : Cx} {E : Env} {hp : Heap} {vs : List Value} {a : Act} {w : World} {D : List Deferred} (hD : D = []) (h : RVs c.P hp E c.fn.results.toList vs) (hΦ : c.Φ (retVal vs) hp) (ho : OK c.fn.ntmps E a) (hi : Inv c.w0 w) (hw : w.heap = hp) :
  LeavesInM Fence.wide 0 c.P c.fn a.tmps c.R D .returning w := by
 subst hD
 exact ⟨retVal vs, results_run ho hw h, retVal vs, rfl, hi, by rw [hw]; exact hΦ⟩
def shutH (hp : Heap) (d : Nat) : Heap := hp.setIfInBounds d (.deferred none)
theorem post_mark {c : Cx} {E : Env} {hp : Heap} {vs : List Value} {a : Act} {w : World} {D : List Deferred} {d : Nat} (hD : D = [{ target := .collected d, args := #[] }]) (hd : hp[d]? = some (.deferred (some []))) (h : RVs c.P (shutH hp d) E c.fn.results.toList vs) (hΦ : c.Φ (retVal vs) (shutH hp d)) (ho : OK c.fn.ntmps E a) (hi : Inv c.w0 w) (hw : w.heap = hp) :
  LeavesInM Fence.wide 0 c.P c.fn a.tmps c.R D .returning w := by
 subst hD
 have ht : (Instr.takeDeferred d).run c.P w = .ok [] (w.putObj d (.deferred none)) := run_takeDeferred (by rw [hw]; exact hd)
 refine ⟨by simp, .inl ⟨d, w.putObj d (.deferred none), rfl, ht, ?_⟩⟩
 have hh : (w.putObj d (.deferred none)).heap = shutH hp d := by rw [← hw]; rfl
 exact ⟨retVal vs, results_run ho hh h, retVal vs, rfl, ⟨hi.os, hi.tape, hi.output⟩, by rw [hh]; exact hΦ⟩
theorem X_end {vs : List Value} (h : RVs c.P hp E c.fn.results.toList vs) (hΦ : c.Φ (retVal vs) hp) (hB : c.B = bodyPostM Fence.wide 0 c.P c.fn c.R := by rfl) (hD : c.D = [] := by rfl) : X c [] E hp := fun a w ho hi hw => by
 show c.B .normal a w
 rw [hB]
 exact post_plain (ho.2.trans hD) h hΦ ho.1 hi hw
theorem SQ_ret {a : Act} {w : World} (h : c.B .ret a w) : ∀ k, SQ c k .ret a w
 | [] => h
 | .code _ :: k => SQ_ret h k
 | .blk _ :: k => SQ_ret h k
 | .inv _ :: k => SQ_ret h k
theorem X_ret {vs : List Value} (h : RVs c.P hp E c.fn.results.toList vs) (hΦ : c.Φ (retVal vs) hp) (hB : c.B = bodyPostM Fence.wide 0 c.P c.fn c.R := by rfl) (hD : c.D = [] := by rfl) : X c (.code .ret :: k) E hp := fun a w ho hi hw => by
 refine wpIn_ret (SQ_ret ?_ k)
 rw [hB]
 exact post_plain (ho.2.trans hD) h hΦ ho.1 hi hw
theorem X_retM {vs : List Value} {d : Nat} (h : RVs c.P (shutH hp d) E c.fn.results.toList vs) (hΦ : c.Φ (retVal vs) (shutH hp d)) (hd : hp[d]? = some (.deferred (some []))) (hB : c.B = bodyPostM Fence.wide 0 c.P c.fn c.R := by rfl) (hD : c.D = [{ target := .collected d, args := #[] }] := by rfl) : X c (.code .ret :: k) E hp := fun a w ho hi hw => by
 refine wpIn_ret (SQ_ret ?_ k)
 rw [hB]
 exact post_mark (ho.2.trans hD) hd h hΦ ho.1 hi hw
end
def argE : Nat → List Value → Env
  | _, [] => []
  | i, v :: r => (i, v) :: argE (i + 1) r
theorem argE_get : ∀ (i : Nat) (l : List Value) (j : Nat) (v : Value), (argE i l).get j = some v → i ≤ j ∧ l[j - i]? = some v
 | _, [], _, _, h => by simp [argE, Env.get] at h
 | i, u :: r, j, v, h => by
  simp only [argE, Env.get_cons] at h
  by_cases hij : i = j
  ·subst hij; simp at h; subst h; simp
  ·rw [if_neg hij] at h
   obtain ⟨h1, h2⟩ := argE_get (i + 1) r j v h
   refine ⟨by omega, ?_⟩
   rw [show j - i = (j - (i + 1)) + 1 by omega, List.getElem?_cons_succ]
   exact h2
theorem ret_of_X {P : Program} {f : FuncId} {fn : Func} {code : Code} {args : List Value} {hp : Heap} {Φ : Value → Heap → Prop} (hf : P.funcs[f]? = some fn) (hb : fn.body = some code)
  (hn : Nat.ble args.length fn.ntmps = true) (h : ∀ w0 : World, w0.heap = hp → X (Cx.of P fn Φ w0) [.code code] (argE 0 args) hp) : Ret P f args hp Φ := by
 intro w hw
 refine callsIn_wide (n := 0).1 (callsIn_of_wp_marks hf hb trivial ?_)
 have hn' : args.length ≤ fn.ntmps := Nat.le_of_ble_eq_true hn
 have hx := h w hw { tmps := args.toArray ++ Array.replicate (fn.ntmps - args.toArray.size) undef, defers := [] } w ⟨⟨by simp; omega, fun i v hv => ?_⟩, rfl⟩ (Inv.refl w) hw
 ·exact wpIn_mono hx (fun e a w he => by cases e <;> exact he)
 ·obtain ⟨_, h2⟩ := argE_get 0 args i v hv
  have hlt : i < args.length := (List.getElem?_eq_some_iff.1 (by simpa using h2)).1
  rw [Array.getElem?_append_left (by simpa using hlt)]
  simpa using h2
inductive Cls where
  | pure | load | grow | wild
  deriving DecidableEq
def NoQ : Exit → Act → World → Prop := fun _ _ _ => False
def upW (P : Program) (S : Exit → Act → World → Prop) (o : Oper) (a : Act) (K : Act → World → Prop) : Result Next → Prop
  | .ok (.round l f tmps assign body) w' => RoundIn Fence.wide 0 P l f tmps assign body w' fun e w'' => ∃ u, e = .returned u ∧ K (a.put o.dst u) w''
  | r => o.upon P a K S r
def wq (P : Program) (S : Exit → Act → World → Prop) (o : Oper) (a : Act) (w : World) (K : Act → World → Prop)   : Prop := upW P S o a K ((execOp a.eval o).run P w)
theorem wp_NoQ {P : Program} {S : Exit → Act → World → Prop} {o : Oper} {a : Act} {w : World} {K : Act → World → Prop} (h : o.wp P a w K NoQ) : o.wp P a w K S := by
 unfold Oper.wp at *
 generalize (execOp a.eval o).run P w = r at *
 cases r with
 | ok n w' =>
  cases n <;> simp only [Oper.upon] at h ⊢ <;> first
   | exact h
   | exact Calls.mono h (fun e w'' he => by cases e <;> first | exact he | exact he.elim | (obtain ⟨_, _, hq⟩ := he; exact hq.elim))
 | halt x w' => cases x <;> simp only [Oper.upon] at h ⊢ <;> exact h.elim
theorem wq_of_wpS {P : Program} {S : Exit → Act → World → Prop} {o : Oper} {a : Act} {w : World} {K : Act → World → Prop} (h : o.wp P a w K S) : wq P S o a w K := by
 unfold wq
 unfold Oper.wp at h
 generalize (execOp a.eval o).run P w = r at *
 cases r with
 | ok n w' => cases n <;> first | exact h | exact h.elim
 | halt x w' => exact h
theorem wq_of_wp {P : Program} {S : Exit → Act → World → Prop} {o : Oper} {a : Act} {w : World} {K : Act → World → Prop} (h : o.wp P a w K NoQ) : wq P S o a w K := wq_of_wpS (wp_NoQ h)
theorem wq_mono {S : Exit → Act → World → Prop} {P : Program} {o : Oper} {a : Act} {w : World} {K K' : Act → World → Prop} (hm : ∀ a w, K a w → K' a w) (h : wq P S o a w K) : wq P S o a w K' := by
 unfold wq at *
 generalize (execOp a.eval o).run P w = r at *
 cases r with
 | ok n w' =>
  cases n <;> simp only [upW, Oper.upon] at h ⊢ <;> first
   | exact hm _ _ h
   | exact h
   | exact Calls.mono h (fun e w'' he => by cases e <;> first | exact hm _ _ he | exact he)
   | exact Rows.mono h (fun u w'' he => hm _ _ he)
   | exact RoundIn.mono h (fun e w'' ⟨u, hu, hk⟩ => ⟨u, hu, hm _ _ hk⟩)
 | halt x w' => cases x <;> simp only [upW, Oper.upon] at h ⊢ <;> exact h
def notDefer (o : Oper) : Bool := match o.op with
  | .defer _ => false
  | _ => true
theorem rowsIn_wdF {r : Option Nat} {P : Program} {row : String} {args : Array Value} {w : World} {R : Value → World → Prop} (h : Rows P row args w R) : RowsIn (wdF r) 0 P row args w R := by
 intro c cs _
 obtain ⟨v, w', hR, hs⟩ := h c cs
 exact ⟨v, w', hR, stepsIn_wide.2 hs⟩
theorem wq_in {r : Option Nat} {P : Program} {o : Oper} {a : Act} {w : World} {K : Act → World → Prop} {Q S : Exit → Act → World → Prop} (hS : ∀ e a w, S e a w → Q e a w) (hD : r = none ∨ notDefer o = true) (h : wq P S o a w K) : o.wpIn (wdF r) 0 P a w K Q := by
 refine ⟨fun _ _ => trivial, ?_⟩
 have hs : o.semAt (wdF r).round a.eval = execOp a.eval o := by
  rcases hD with rfl | hn
  ·rfl
  ·refine Oper.semAt_eq _ _ _ (fun c hc => ?_)
   unfold notDefer at hn; rw [hc] at hn; cases hn
 rw [hs]
 unfold wq at h
 generalize (execOp a.eval o).run P w = res at *
 have hdep : (wdF r).depth.isSome = true → 1 ≤ 0 := fun hh => by cases hh
 cases res with
 | ok n w' =>
  cases n <;> simp only [upW, Oper.upon, Oper.uponIn] at h ⊢ <;> first
   | exact h
   | exact h.elim
   | exact ⟨hdep, (callsIn_wide (n := 0 - 1)).2 (Calls.mono h (fun e w'' he => by cases e <;> first | exact he | exact hS _ _ _ he | (obtain ⟨a0, w0, hq⟩ := he; exact ⟨a0, w0, hS _ _ _ hq⟩)))⟩
   | exact ⟨hdep, rowsIn_wdF h⟩
   | exact ⟨hdep, RoundIn.mono h (fun e w'' ⟨u, hu, hk⟩ => by subst hu; exact hk)⟩
 | halt x w' => cases x <;> simp only [upW, Oper.upon, Oper.uponIn] at h ⊢ <;> first | exact h.elim | exact hS _ _ _ h
abbrev CF := Nat → Oper → Cls
def stepC (c : Cls) (P : Program) (S : Exit → Act → World → Prop) (o : Oper) (a : Act) (w : World) (K : Act → World → Prop) : Prop :=
  match c with
  | .pure => ∃ v, (∀ w', (execOp a.eval o).run P w' = .ok (.value v) w') ∧ K (a.put o.dst v) w
  | .load => ∃ v, (∀ w' : World, Ext w.heap w'.heap → (execOp a.eval o).run P w' = .ok (.value v) w') ∧ K (a.put o.dst v) w
  | .grow => o.wp P a w (fun a' w' => Ext w.heap w'.heap ∧ K a' w') S
  | .wild => wq P S o a w K
def stepI (cs : CF) (P : Program) (S : Exit → Act → World → Prop) (ops : Array Oper) (i : Nat) (a : Act) (w : World) (K : Act → World → Prop) : Prop :=
  ∃ o, ops[i]? = some o ∧ if Region.wanted o (yielded ops a.tmps) = true then stepC (cs i o) P S o a w K else K (a.put o.dst undef) w
theorem stepC.wq {S : Exit → Act → World → Prop} {c : Cls} {P : Program} {o : Oper} {a : Act} {w : World} {K : Act → World → Prop} (h : stepC c P S o a w K) : wq P S o a w K := by
 cases c with
 | pure => obtain ⟨v, hv, hk⟩ := h; refine wq_of_wp ?_; simp only [Oper.wp, hv w, Oper.upon]; exact hk
 | load => obtain ⟨v, hv, hk⟩ := h; refine wq_of_wp ?_; simp only [Oper.wp, hv w (Ext.refl _), Oper.upon]; exact hk
 | grow => exact wq_of_wpS (Oper.wp_mono (fun _ _ hk => hk.2) h)
 | wild => exact h
theorem stepC.mono {S : Exit → Act → World → Prop} {c : Cls} {P : Program} {o : Oper} {a : Act} {w : World} {K K' : Act → World → Prop} (hm : ∀ a w, K a w → K' a w) (h : stepC c P S o a w K) : stepC c P S o a w K' := by
 cases c with
 | pure => obtain ⟨v, hv, hk⟩ := h; exact ⟨v, hv, hm _ _ hk⟩
 | load => obtain ⟨v, hv, hk⟩ := h; exact ⟨v, hv, hm _ _ hk⟩
 | grow => exact Oper.wp_mono (fun _ _ hk => ⟨hk.1, hm _ _ hk.2⟩) h
 | wild => exact wq_mono hm h
theorem stepI.mono {S : Exit → Act → World → Prop} {cs : CF} {P : Program} {ops : Array Oper} {i : Nat} {a : Act} {w : World} {K K' : Act → World → Prop} (hm : ∀ a w, K a w → K' a w) (h : stepI cs P S ops i a w K) : stepI cs P S ops i a w K' := by
 obtain ⟨o, ho, h⟩ := h
 refine ⟨o, ho, ?_⟩
 split
 ·rename_i hw; rw [if_pos hw] at h; exact h.mono hm
 ·rename_i hw; rw [if_neg hw] at h; exact hm _ _ h
def noDefer (ops : Array Oper) : Bool := ops.all notDefer
def noDeferL : List Oper → Bool
  | [] => true
  | o :: r => notDefer o && noDeferL r
theorem noDeferL_spec : ∀ {l : List Oper}, noDeferL l = true → noDefer l.toArray = true
 | [], _ => by simp [noDefer]
 | o :: r, h => by
  simp only [noDeferL, Bool.and_eq_true] at h
  have := noDeferL_spec h.2
  simp only [noDefer, List.all_toArray, List.all_cons, Bool.and_eq_true] at this ⊢
  exact ⟨h.1, this⟩
theorem noDefer_at {ops : Array Oper} (h : noDefer ops = true) {i : Nat} {o : Oper} (hi : ops[i]? = some o) : notDefer o = true := by
 obtain ⟨hl, rfl⟩ := Array.getElem?_eq_some_iff.1 hi
 exact (Array.all_eq_true.1 h) i hl
theorem stepI.wpOp {r : Option Nat} {cs : CF} {P : Program} {ops : Array Oper} {Q S : Exit → Act → World → Prop} {i : Nat} {a : Act} {w : World} {K : Act → World → Prop} (hS : ∀ e a w, S e a w → Q e a w) (hD : r = none ∨ noDefer ops = true) (h : stepI cs P S ops i a w K) : wpOpIn (wdF r) 0 P ops Q i K a w := by
 obtain ⟨o, ho, h⟩ := h
 unfold Go.wpOpIn
 simp only [ho]
 split
 ·rename_i hw; rw [if_pos hw] at h; exact wq_in hS (hD.imp id (fun hn => noDefer_at hn ho)) h.wq
 ·rename_i hw; rw [if_neg hw] at h; exact ⟨fun _ _ => trivial, h⟩
def rgl (cs : CF) (P : Program) (S : Exit → Act → World → Prop) (ops : Array Oper) (N : Act → World → Prop) : List Nat → Act → World → Prop
  | [], a, w => N a w
  | i :: rest, a, w => stepI cs P S ops i a w (rgl cs P S ops N rest)
theorem rgl_ops {r : Option Nat} {cs : CF} {P : Program} {ops : Array Oper} {Q S : Exit → Act → World → Prop} (hS : ∀ e a w, S e a w → Q e a w) (hD : r = none ∨ noDefer ops = true) : ∀ (l : List Nat) (a : Act) (w : World), rgl cs P S ops (Q .normal) l a w → wpOpsIn (wdF r) 0 P ops Q l a w
 | [], _, _, h => h
 | i :: rest, a, w, h => by
  rw [wpOpsIn_cons]
  exact wpOpIn_mono (fun a w => rgl_ops hS hD rest a w) (h.wpOp hS hD)
def anyC (cs : CF) (P : Program) (S : Exit → Act → World → Prop) (ops : Array Oper) (N : Act → World → Prop) : Nat → Array Bool → Act → World → Prop
  | 0, listed, a, w => Region.ready .any ops listed = [] ∧ N a w
  | f + 1, listed, a, w => (Region.ready .any ops listed = [] → N a w) ∧
    ∀ i ∈ Region.ready .any ops listed, stepI cs P S ops i a w (anyC cs P S ops N f (listed.setIfInBounds i true))
theorem anyC.wpAny {r : Option Nat} {cs : CF} {P : Program} {ops : Array Oper} {Q S : Exit → Act → World → Prop} (hS : ∀ e a w, S e a w → Q e a w) (hD : r = none ∨ noDefer ops = true) : ∀ (f : Nat) (listed : Array Bool) (a : Act) (w : World), anyC cs P S ops (Q .normal) f listed a w → wpAnyIn (wdF r) 0 P .any ops Q f listed a w
 | 0, _, _, _, h => h
 | f + 1, _, _, _, h => ⟨h.1, fun i hi => wpOpIn_mono (fun a w => anyC.wpAny hS hD f _ a w) ((h.2 i hi).wpOp hS hD)⟩
def Gives (c : Cls) (P : Program) (ops : Array Oper) (o : Oper) (v : Value) (a : Act) (w : World) : Prop :=
  (Region.wanted o (yielded ops a.tmps) = true ∧ match c with
    | .pure => ∀ w', (execOp a.eval o).run P w' = .ok (.value v) w'
    | .load => ∀ w' : World, Ext w.heap w'.heap → (execOp a.eval o).run P w' = .ok (.value v) w'
    | _ => False) ∨
  (Region.wanted o (yielded ops a.tmps) = false ∧ v = undef)
theorem Gives.of_same {c : Cls} {P : Program} {ops : Array Oper} {o : Oper} {v : Value} {a a' : Act} {w w' : World} (h : Gives c P ops o v a w) (he : execOp a'.eval o = execOp a.eval o)
  (hw : Region.wanted o (yielded ops a'.tmps) = Region.wanted o (yielded ops a.tmps)) (hx : c = .load → Ext w.heap w'.heap) : Gives c P ops o v a' w' := by
 unfold Gives at *
 rw [he, hw]
 refine h.imp (fun h => ⟨h.1, ?_⟩) id
 have h2 := h.2
 cases c with
 | pure => exact h2
 | load => exact fun w'' hx' => h2 w'' ((hx rfl).trans hx')
 | grow => exact h2
 | wild => exact h2
theorem Gives.stepI {S : Exit → Act → World → Prop} {cs : CF} {P : Program} {ops : Array Oper} {i : Nat} {o : Oper} {v : Value} {a : Act} {w : World} (hi : ops[i]? = some o) (h : Gives (cs i o) P ops o v a w)
  {K : Act → World → Prop} (hk : K (a.put o.dst v) w) : stepI cs P S ops i a w K := by
 refine ⟨o, hi, ?_⟩
 rcases h with ⟨hw, h⟩ | ⟨hw, rfl⟩
 ·rw [if_pos hw]
  generalize cs i o = c at h ⊢
  cases c with
  | pure => exact ⟨v, h, hk⟩
  | load => exact ⟨v, h, hk⟩
  | grow => exact h.elim
  | wild => exact h.elim
 ·rw [if_neg (by rw [hw]; exact Bool.false_ne_true)]; exact hk
theorem gives_of_stepI {S : Exit → Act → World → Prop} {cs : CF} {P : Program} {ops : Array Oper} {i : Nat} {o : Oper} {a : Act} {w : World} {K : Act → World → Prop} (hi : ops[i]? = some o)
  (hc : cs i o = .pure ∨ cs i o = .load) (h : stepI cs P S ops i a w K) : ∃ v, Gives (cs i o) P ops o v a w ∧ K (a.put o.dst v) w := by
 obtain ⟨o', ho', h⟩ := h
 obtain rfl : o' = o := Option.some.inj (ho'.symm.trans hi)
 by_cases hw : Region.wanted o' (yielded ops a.tmps) = true
 ·rw [if_pos hw] at h
  rcases hc with hc | hc <;> rw [hc] at h ⊢ <;> obtain ⟨v, hv, hk⟩ := h <;> exact ⟨v, .inl ⟨hw, hv⟩, hk⟩
 ·rw [if_neg hw] at h
  exact ⟨undef, .inr ⟨by simpa using hw, rfl⟩, h⟩
theorem stepI_put {S : Exit → Act → World → Prop} (hIn : ∀ e a d v w, S e (Act.put a d v) w → S e a w) {cs : CF} {P : Program} {ops : Array Oper} {j : Nat} {oi oj : Oper} {c : Cls} {v : Value} (hj : ops[j]? = some oj) (hap : oi.apart ops oj = true)
  (hsi : ∀ cs b, oi.op ≠ .select cs b) (hsj : ∀ cs b, oj.op ≠ .select cs b) (hwl : c = .load → cs j oj ≠ .wild) {K : Act → World → Prop} {a : Act} {w : World}
  (hy : Gives c P ops oi v a w) (h : stepI cs P S ops j (a.put oi.dst v) w K) :
  stepI cs P S ops j a w (fun a' w' => Gives c P ops oi v a' w' ∧ K (a'.put oi.dst v) w') := by
 obtain ⟨h1, h2, h3⟩ := Oper.apart_spec hap
 have keep : ∀ (a : Act) (w w' : World), Gives c P ops oi v a w → (c = .load → Ext w.heap w'.heap) → ∀ u, Gives c P ops oi v (a.put oj.dst u) w' := fun a w w' hy hx u =>
  hy.of_same (execOp_put oi hsi a oj.dst u h3) (wanted_put oi a oj.dst u h3) hx
 have keepD : ∀ (w w' : World) (_ : c = .load → Ext w.heap w'.heap) (_ : Gives c P ops oi v a w) d, Gives c P ops oi v { a with defers := d :: a.defers } w' := fun w w' hx hy d => hy.of_same rfl rfl hx
 obtain ⟨o', ho', h⟩ := h
 obtain rfl : o' = oj := Option.some.inj (ho'.symm.trans hj)
 refine ⟨o', hj, ?_⟩
 rw [wanted_put o' a oi.dst v h1] at h
 split
 ·rename_i hw
  rw [if_pos hw] at h
  have he := execOp_put o' hsj a oi.dst v h1
  -- an operation's run, its frame turned
  have go : ∀ (K' K'' : Act → World → Prop), (∀ a' w', (∃ (u : Value) (a0 : Act), Gives c P ops oi v a0 w ∧ a' = a0.put o'.dst u) → K' (a'.put oi.dst v) w' → K'' a' w') → o'.wp P (a.put oi.dst v) w K' S → o'.wp P a w K'' S := by
   intro K' K'' hk hh
   unfold Oper.wp at *
   rw [he] at hh
   generalize (execOp a.eval o').run P w = r at *
   cases r with
   | ok n w' =>
    cases n <;> simp only [Oper.upon] at hh ⊢
    case value u => exact hk _ _ ⟨u, a, hy, rfl⟩ (by rw [← Act.put_comm a v u h2]; exact hh)
    case skip => exact hk _ _ ⟨undef, a, hy, rfl⟩ (by rw [← Act.put_comm a v undef h2]; exact hh)
    case defer d =>
     refine hk _ _ ⟨undef, { a with defers := d :: a.defers }, hy.of_same rfl rfl (fun _ => Ext.refl _), rfl⟩ ?_
     rw [← Act.put_comm _ v undef h2, ← Act.put_defers]
     exact hh
    case enter f args =>
     refine Calls.mono hh fun e w'' he => ?_
     cases e with
     | returned u => exact hk _ _ ⟨u, a, hy, rfl⟩ (by rw [← Act.put_comm a v u h2]; exact he)
     | panicked c => exact hIn _ _ _ _ _ he
     | outgrown => exact he
    case row row args => exact Rows.mono hh fun u w'' he => hk _ _ ⟨u, a, hy, rfl⟩ (by rw [← Act.put_comm a v u h2]; exact he)
   | halt x w' =>
    cases x <;> simp only [Oper.upon] at hh ⊢
    case panic u => exact hIn _ _ _ _ _ hh
  have goq : ∀ (K' K'' : Act → World → Prop), (∀ a' w', (∃ (u : Value) (a0 : Act), Gives c P ops oi v a0 w ∧ a' = a0.put o'.dst u) → K' (a'.put oi.dst v) w' → K'' a' w') → wq P S o' (a.put oi.dst v) w K' → wq P S o' a w K'' := by
   intro K' K'' hk hh
   unfold wq at *
   rw [he] at hh
   generalize (execOp a.eval o').run P w = r at *
   cases r with
   | ok n w' =>
    cases n <;> simp only [upW, Oper.upon] at hh ⊢
    case value u => exact hk _ _ ⟨u, a, hy, rfl⟩ (by rw [← Act.put_comm a v u h2]; exact hh)
    case skip => exact hk _ _ ⟨undef, a, hy, rfl⟩ (by rw [← Act.put_comm a v undef h2]; exact hh)
    case defer d =>
     refine hk _ _ ⟨undef, { a with defers := d :: a.defers }, hy.of_same rfl rfl (fun _ => Ext.refl _), rfl⟩ ?_
     rw [← Act.put_comm _ v undef h2, ← Act.put_defers]
     exact hh
    case enter f args =>
     refine Calls.mono hh fun e w'' he => ?_
     cases e with
     | returned u => exact hk _ _ ⟨u, a, hy, rfl⟩ (by rw [← Act.put_comm a v u h2]; exact he)
     | panicked c => exact hIn _ _ _ _ _ he
     | outgrown => exact he
    case row row args => exact Rows.mono hh fun u w'' he => hk _ _ ⟨u, a, hy, rfl⟩ (by rw [← Act.put_comm a v u h2]; exact he)
    case round l f tmps assign body => exact RoundIn.mono hh fun e w'' ⟨u, hu, he⟩ => ⟨u, hu, hk _ _ ⟨u, a, hy, rfl⟩ (by rw [← Act.put_comm a v u h2]; exact he)⟩
   | halt x w' =>
    cases x <;> simp only [upW, Oper.upon] at hh ⊢
    case panic u => exact hIn _ _ _ _ _ hh
  generalize hcj : cs j o' = cj at *
  cases cj with
  | pure =>
   obtain ⟨u, hu, hk⟩ := h
   rw [he] at hu
   exact ⟨u, hu, keep a w w hy (fun _ => Ext.refl _) u, by rw [← Act.put_comm a v u h2]; exact hk⟩
  | load =>
   obtain ⟨u, hu, hk⟩ := h
   rw [he] at hu
   exact ⟨u, hu, keep a w w hy (fun _ => Ext.refl _) u, by rw [← Act.put_comm a v u h2]; exact hk⟩
  | grow =>
   refine go _ _ ?_ h
   rintro a' w' ⟨u, a0, hy0, rfl⟩ ⟨hx, hk⟩
   exact ⟨hx, keep a0 w w' hy0 (fun _ => hx) u, hk⟩
  | wild =>
   refine goq _ _ ?_ h
   rintro a' w' ⟨u, a0, hy0, rfl⟩ hk
   exact ⟨keep a0 w w' hy0 (fun hl => absurd rfl (hwl hl)) u, hk⟩
 ·rename_i hw
  rw [if_neg hw] at h
  exact ⟨keep a w w hy (fun _ => Ext.refl _) undef, by rw [← Act.put_comm a v undef h2]; exact h⟩
theorem anyC_first {S : Exit → Act → World → Prop} (hIn : ∀ e a d v w, S e (Act.put a d v) w → S e a w) {cs : CF} {P : Program} {ops : Array Oper} {N : Act → World → Prop} {i : Nat} {oi : Oper} {v : Value} (hi : ops[i]? = some oi)
  (hsel : ∀ (j : Nat) (o : Oper) cs b, ops[j]? = some o → o.op ≠ .select cs b) (I : Array Bool → Prop)
  (hI : ∀ listed j, I listed → j ∈ Region.ready .any ops listed → j ≠ i → listed.getD i true = false → I (listed.setIfInBounds j true))
  (hfree : ∀ listed j oj, I listed → ops[j]? = some oj → j ∈ Region.ready .any ops listed → j ≠ i → listed.getD i true = false →
   oi.apart ops oj = true ∧ (cs i oi = .load → cs j oj ≠ .wild)) :
  ∀ (fuel : Nat) (listed : Array Bool) (a : Act) (w : World), I listed → i ∈ Region.ready .any ops listed → Gives (cs i oi) P ops oi v a w →
   anyC cs P S ops N fuel (listed.setIfInBounds i true) (a.put oi.dst v) w → anyC cs P S ops N (fuel + 1) listed a w := by
 intro fuel
 induction fuel with
 | zero =>
  intro listed a w _ hr hy H
  refine ⟨fun h => (by rw [h] at hr; cases hr), fun j hj => ?_⟩
  by_cases hji : j = i
  ·subst hji; exact hy.stepI hi H
  ·have := ready_mono hj hji
   rw [H.1] at this
   cases this
 | succ fuel ih =>
  intro listed a w inv hr hy H
  refine ⟨fun h => (by rw [h] at hr; cases hr), fun j hj => ?_⟩
  by_cases hji : j = i
  ·subst hji; exact hy.stepI hi H
  ·have h1 := H.2 j (ready_mono hj hji)
   obtain ⟨hjun, oj, hoj, hall⟩ := mem_ready.1 hj
   have hun := (mem_ready.1 hr).1
   obtain ⟨hap, hwl⟩ := hfree listed j oj inv hoj hj hji hun
   have h2 := stepI_put hIn hoj hap (fun cs b => hsel i oi cs b hi) (fun cs b => hsel j oj cs b hoj) hwl hy h1
   refine stepI.mono (fun a' w' h3 => ih (listed.setIfInBounds j true) a' w' (hI listed j inv hj hji hun) (ready_mono hr (Ne.symm hji)) h3.1 ?_) h2
   rw [Array.setIfInBounds_comm _ _ hji]
   exact h3.2
def befOk (b : Array Nat) (ops : Array Oper) : Bool :=
  (List.range ops.size).all fun j => match ops[j]? with
    | none => true
    | some oj => (List.range ops.size).all fun i => !(b.getD j 0).testBit i || oj.after.any fun e => Region.binds .any e && Nat.blt e.on j && (Nat.beq e.on i || (b.getD e.on 0).testBit i)
def quietAt (cs : CF) (ops : Array Oper) (b : Array Nat) (listed : Array Bool) (k : Nat) : Bool :=
  match ops[k]? with
  | none => false
  | some ok => (List.range ops.size).all fun j => Nat.beq j k || listed.getD j true || (b.getD j 0).testBit k || match ops[j]? with
      | none => true
      | some oj => ok.apart ops oj && (match cs k ok, cs j oj with | .load, .wild => false | _, _ => true)
def sch (cs : CF) (ops : Array Oper) (b : Array Nat) : List Nat → Array Bool → Bool
  | [], listed => (Region.ready .any ops listed).isEmpty
  | k :: rest, listed => (match ops[k]? with
      | none => false
      | some ok => match cs k ok with
        | .pure | .load => (Region.ready .any ops listed).contains k && quietAt cs ops b listed k
        | _ => Region.ready .any ops listed == [k]) && sch cs ops b rest (listed.setIfInBounds k true)
def schB (cs : CF) (ops : Array Oper) (ord : List Nat) : Bool :=
  Region.noSelect ops && befOk (Region.before ops) ops && Nat.beq ord.length ops.size && sch cs ops (Region.before ops) ord (Array.replicate ops.size false)
def Closed (ops : Array Oper) (listed : Array Bool) : Prop := ∀ j oj, ops[j]? = some oj → listed.getD j false = true → ∀ e ∈ oj.after, Region.binds .any e = true → listed.getD e.on false = true
theorem getD_replicate_false (m j : Nat) : (Array.replicate m false).getD j false = false := by
 rcases Nat.lt_or_ge j m with h | h <;> simp [h]
theorem not_both {listed : Array Bool} {i : Nat} (h : listed.getD i true = false) (h' : listed.getD i false = true) : False := by
 rcases Nat.lt_or_ge i listed.size with hlt | hge
 ·simp [hlt] at h h'; rw [h] at h'; cases h'
 ·simp [Array.getElem?_eq_none hge] at h
theorem befOk_spec {b : Array Nat} {ops : Array Oper} (h : befOk b ops = true) {j i : Nat} {oj : Oper} (hj : ops[j]? = some oj) (hi : i < ops.size) (hb : (b.getD j 0).testBit i = true) :
  ∃ e ∈ oj.after, Region.binds .any e = true ∧ e.on < j ∧ (e.on = i ∨ (b.getD e.on 0).testBit i = true) := by
 have hjlt := (Array.getElem?_eq_some_iff.1 hj).1
 have h1 := List.all_eq_true.1 h j (List.mem_range.2 hjlt)
 simp only [hj] at h1
 have h2 := List.all_eq_true.1 h1 i (List.mem_range.2 hi)
 rw [hb] at h2
 simp only [Bool.not_true, Bool.false_or] at h2
 obtain ⟨e, he, hx⟩ := Array.any_eq_true'.1 h2
 simp only [Bool.and_eq_true, Bool.or_eq_true, Nat.blt_eq] at hx
 exact ⟨e, he, hx.1.1, hx.1.2, hx.2.imp Nat.eq_of_beq_eq_true id⟩
theorem closed_not {b : Array Nat} {ops : Array Oper} (h : befOk b ops = true) {listed : Array Bool} (hc : Closed ops listed) {i : Nat} (hi : i < ops.size) (hun : listed.getD i true = false) :
  ∀ j, listed.getD j false = true → (b.getD j 0).testBit i = true → j < ops.size → False := by
 intro j
 induction j using Nat.strongRecOn with
 | _ j ih =>
  intro hl hb hj
  obtain ⟨e, he, hbi, hlt, hor⟩ := befOk_spec h (Array.getElem?_eq_getElem hj) hi hb
  have hle := hc j _ (Array.getElem?_eq_getElem hj) hl e he hbi
  rcases hor with rfl | hb'
  ·exact not_both hun hle
  ·exact ih e.on hlt hle hb' (by omega)
theorem Closed.set {ops : Array Oper} {listed : Array Bool} (hc : Closed ops listed) {i : Nat} (hi : i ∈ Region.ready .any ops listed) : Closed ops (listed.setIfInBounds i true) := by
 obtain ⟨_, oi, hoi, hall⟩ := mem_ready.1 hi
 intro j oj hj hl e he hb
 by_cases hij : i = j
 ·subst hij
  obtain rfl : oj = oi := Option.some.inj (hj.symm.trans hoi)
  exact getD_set_true (hall e he hb)
 ·rw [getD_set_ne false hij] at hl
  exact getD_set_true (hc j oj hj hl e he hb)
theorem rgl_any {S : Exit → Act → World → Prop} (hIn : ∀ e a d v w, S e (Act.put a d v) w → S e a w) {cs : CF} {P : Program} {ops : Array Oper} {N : Act → World → Prop} {b : Array Nat} (hs : Region.noSelect ops = true) (hbk : befOk b ops = true) :
  ∀ (ord : List Nat) (listed : Array Bool) (a : Act) (w : World), Closed ops listed → sch cs ops b ord listed = true → rgl cs P S ops N ord a w → anyC cs P S ops N ord.length listed a w
 | [], listed, a, w, _, hB, h => ⟨by simpa [sch] using hB, h⟩
 | k :: rest, listed, a, w, hc, hB, h => by
  simp only [sch, Bool.and_eq_true] at hB
  obtain ⟨h1, h2⟩ := hB
  have h0 : stepI cs P S ops k a w (rgl cs P S ops N rest) := h
  obtain ⟨ok, hok, _⟩ := id h0
  have quiet : (cs k ok = .pure ∨ cs k ok = .load) → (Region.ready .any ops listed).contains k = true → quietAt cs ops b listed k = true → anyC cs P S ops N (rest.length + 1) listed a w := by
   intro hcl hr hq
   have hrk : k ∈ Region.ready .any ops listed := by simpa using hr
   have hklt := (Array.getElem?_eq_some_iff.1 hok).1
   obtain ⟨v, hy, hk⟩ := gives_of_stepI hok hcl h0
   refine anyC_first hIn hok (Region.noSelect_spec hs) (fun l => Closed ops l ∧ ∀ j, listed.getD j true = true → l.getD j true = true) ?_ ?_ rest.length listed a w ⟨hc, fun _ h => h⟩ hrk hy
    (rgl_any hIn hs hbk rest _ _ _ (hc.set hrk) h2 hk)
   ·intro l j ⟨hcl', hmono⟩ hj hne hun
    refine ⟨hcl'.set hj, fun i hi => ?_⟩
    by_cases hji : j = i
    ·subst hji
     have hlt : j < l.size := by
      rcases Nat.lt_or_ge j l.size with h | h
      ·exact h
      ·exact absurd (mem_ready.1 hj).1 (by simp [Array.getElem?_eq_none h])
     simp [hlt]
    ·rw [getD_set_ne true hji]; exact hmono i hi
   ·intro l j oj ⟨hcl', hmono⟩ hoj hj hne hun
    have hjlt := (Array.getElem?_eq_some_iff.1 hoj).1
    obtain ⟨hjun, oj', hoj', hall⟩ := mem_ready.1 hj
    obtain rfl : oj' = oj := Option.some.inj (hoj'.symm.trans hoj)
    unfold quietAt at hq
    simp only [hok] at hq
    have h3 := List.all_eq_true.1 hq j (List.mem_range.2 hjlt)
    have hnl : listed.getD j true = false := by
     cases hl : listed.getD j true with
     | false => rfl
     | true => rw [hmono j hl] at hjun; cases hjun
    simp only [hnl, hoj, Bool.or_false, Bool.or_eq_true, Bool.and_eq_true] at h3
    rcases h3 with (h3 | h3) | h3
    ·exact absurd (Nat.eq_of_beq_eq_true h3) hne
    ·exfalso
     obtain ⟨e, he, hbi, hlt, hor⟩ := befOk_spec hbk hoj hklt h3
     have hle := hall e he hbi
     rcases hor with rfl | hb'
     ·exact not_both hun hle
     ·exact closed_not hbk hcl' hklt hun e.on hle hb' (by omega)
    ·have h4 := h3
     refine ⟨h4.1, fun hl hw => ?_⟩
     have h5 := h4.2
     rw [hl, hw] at h5
     cases h5
  have loud : Region.ready .any ops listed = [k] → anyC cs P S ops N (rest.length + 1) listed a w := by
   intro hr
   refine ⟨fun h => (by rw [hr] at h; cases h), fun i hi => ?_⟩
   rw [hr] at hi
   obtain rfl : i = k := by simpa using hi
   exact h0.mono fun a' w' h' => rgl_any hIn hs hbk rest _ _ _ (hc.set (by rw [hr]; simp)) h2 h'
  simp only [hok] at h1
  generalize hcl : cs k ok = cl at h1
  cases cl with
  | pure => simp only [Bool.and_eq_true] at h1; exact quiet (.inl hcl) h1.1 h1.2
  | load => simp only [Bool.and_eq_true] at h1; exact quiet (.inr hcl) h1.1 h1.2
  | grow => exact loud (by simpa using h1)
  | wild => exact loud (by simpa using h1)
theorem wp_region_rgl {r : Option Nat} {P : Program} {id : Nat} {ops : Array Oper} {Q S : Exit → Act → World → Prop} (hS : ∀ e a w, S e a w → Q e a w) (hIn : ∀ e a d v w, S e (Act.put a d v) w → S e a w) {a : Act} {w : World} (cs : CF) (ord : List Nat) (hD : r = none ∨ noDefer ops = true) (hm : P.follows .mixedOrders = true) (hB : schB cs ops ord = true)
  (h : rgl cs P S ops (Q .normal) ord a { w with drawn := w.drawn + 1 }) : (Code.region id ops true).wpIn (wdF r) 0 P Q a w := by
 simp only [schB, Bool.and_eq_true] at hB
 obtain ⟨⟨⟨hs, hb⟩, hl⟩, hsch⟩ := hB
 refine wpIn_region_any hm (anyC.wpAny (cs := cs) hS hD _ _ _ _ ?_)
 have key := rgl_any (N := Q .normal) hIn hs hb ord (Array.replicate ops.size false) a { w with drawn := w.drawn + 1 } (fun j oj _ hl' => absurd hl' (by
  rw [getD_replicate_false]; exact Bool.false_ne_true)) hsch h
 rw [Nat.eq_of_beq_eq_true hl] at key
 exact key
theorem wp_region_rgl_text {r : Option Nat} {P : Program} {id : Nat} {ops : Array Oper} {Q S : Exit → Act → World → Prop} (hS : ∀ e a w, S e a w → Q e a w) {a : Act} {w : World} (cs : CF) (hD : r = none ∨ noDefer ops = true)
  (h : rgl cs P S ops (Q .normal) (List.range ops.size) a w) : (Code.region id ops false).wpIn (wdF r) 0 P Q a w := wpIn_region (rgl_ops hS hD _ _ _ h)
def wantedE (ops : Array Oper) (E : Env) (o : Oper) : Option Bool :=
  match o.guard with
  | none => some true
  | some (j, want) => match (ops[j]?).bind (·.dst) with
    | none => none
    | some t => match E.get t with
      | some (.bool b) => some (b == want)
      | some (.tuple _) => some false
      | _ => none
theorem wantedE_spec {n : Nat} {ops : Array Oper} {E : Env} {o : Oper} {b : Bool} {a : Act} (h : wantedE ops E o = some b) (ho : OK n E a) : Region.wanted o (yielded ops a.tmps) = b := by
 unfold wantedE at h
 unfold Region.wanted
 cases hg : o.guard with
 | none => rw [hg] at h; simpa using h
 | some g =>
  obtain ⟨j, want⟩ := g
  rw [hg] at h
  simp only at h ⊢
  cases ht : (ops[j]?).bind (·.dst) with
  | none => rw [ht] at h; cases h
  | some t =>
   rw [ht] at h
   simp only at h
   unfold yielded
   rw [ht]
   cases he : E.get t with
   | none => rw [he] at h; cases h
   | some v =>
    rw [he] at h
    simp only [Option.bind_some, ho.get t v he]
    cases v <;> first
     | (cases h; done)
     | (cases h; rfl)
     | (cases h; rename_i b; cases b <;> cases want <;> rfl)
def pairsFrom : Nat → List Oper → List (Nat × Oper)
  | _, [] => []
  | i, o :: r => (i, o) :: pairsFrom (i + 1) r
def rgp (cs : CF) (P : Program) (S : Exit → Act → World → Prop) (ops : Array Oper) (N : Act → World → Prop) : List (Nat × Oper) → Act → World → Prop
  | [], a, w => N a w
  | (i, o) :: rest, a, w => if Region.wanted o (yielded ops a.tmps) = true then stepC (cs i o) P S o a w (rgp cs P S ops N rest) else rgp cs P S ops N rest (a.put o.dst undef) w
theorem rgp_rgl {S : Exit → Act → World → Prop} {cs : CF} {P : Program} {ops : Array Oper} {N : Act → World → Prop} : ∀ (l : List (Nat × Oper)), (∀ p ∈ l, ops[p.1]? = some p.2) → ∀ a w, rgp cs P S ops N l a w → rgl cs P S ops N (l.map (·.1)) a w
 | [], _, _, _, h => h
 | (i, o) :: rest, hl, a, w, h => by
  have ih := rgp_rgl (S := S) (cs := cs) (P := P) (N := N) rest (fun p hp => hl p (List.mem_cons_of_mem _ hp))
  refine ⟨o, hl (i, o) List.mem_cons_self, ?_⟩
  simp only [rgp] at h
  split
  ·rename_i hw; rw [if_pos hw] at h; exact h.mono ih
  ·rename_i hw; rw [if_neg hw] at h; exact ih _ _ h
theorem pairsFrom_fst : ∀ (l : List Oper) (i : Nat), (pairsFrom i l).map (·.1) = List.range' i l.length
 | [], _ => rfl
 | o :: r, i => by simp [pairsFrom, pairsFrom_fst r (i + 1), List.range'_succ]
theorem pairsFrom_mem : ∀ (l : List Oper) (i : Nat) (p : Nat × Oper), p ∈ pairsFrom i l → i ≤ p.1 ∧ l[p.1 - i]? = some p.2
 | [], _, _, h => by simp [pairsFrom] at h
 | o :: r, i, p, h => by
  simp only [pairsFrom, List.mem_cons] at h
  rcases h with rfl | h
  ·simp
  ·obtain ⟨h1, h2⟩ := pairsFrom_mem r (i + 1) p h
   refine ⟨by omega, ?_⟩
   rw [show p.1 - i = (p.1 - (i + 1)) + 1 by omega, List.getElem?_cons_succ]
   exact h2
section
variable {c : Cx} {k : List SItem} {E : Env} {hp : Heap} {ops : Array Oper} {cs : CF}
def PQ (c : Cx) (k : List SItem) : Exit → Act → World → Prop
  | .panic ch, a, w => ∃ E0 D, (OK c.fn.ntmps E0 a ∧ a.defers = D) ∧ (c.pd = true → E0 = []) ∧ ∀ a', (OK c.fn.ntmps E0 a' ∧ a'.defers = D) → SQ c k (.panic ch) a' w
  | _, _, _ => False
theorem PQ_SQ (e : Exit) (a : Act) (w : World) (h : PQ c k e a w) : SQ c k e a w := by
 cases e with
 | panic ch => obtain ⟨E0, D, h1, _, h2⟩ := h; exact h2 a h1
 | _ => exact h.elim
theorem put_size (a : Act) (d : Option Nat) (v : Value) : (a.put d v).tmps.size = a.tmps.size := by cases d <;> simp [Act.put]
theorem PQ_put (hE : c.pd = true) (e : Exit) (a : Act) (d : Option Nat) (v : Value) (w : World) (h : PQ c k e (a.put d v) w) : PQ c k e a w := by
 cases e with
 | panic ch =>
  obtain ⟨E0, D, h1, h2, h3⟩ := h
  obtain rfl := h2 hE
  exact ⟨[], D, ⟨⟨(put_size a d v).symm.trans h1.1.size, fun i v hv => by simp [Env.get] at hv⟩, (put_defers a d v).symm.trans h1.2⟩, fun _ => rfl, h3⟩
 | _ => exact h.elim
def XR (c : Cx) (cs : CF) (ops : Array Oper) (l : List (Nat × Oper)) (k : List SItem) (E : Env) (hp : Heap) : Prop :=
  ∀ a w, (OK c.fn.ntmps E a ∧ a.defers = c.D) → Inv c.w0 w → w.heap = hp → rgp cs c.P (PQ c k) ops (SQ c k .normal) l a w
def allWild : CF := fun _ _ => .wild
theorem X_reg {id : Nat} {l : List Oper} (h : XR c allWild l.toArray (pairsFrom 0 l) k E hp) (hD0 : c.r = none ∨ noDeferL l = true := by first | exact .inl rfl | exact .inr rfl) : X c (.code (.region id l.toArray false) :: k) E hp := by
 intro a w ho hi hw
 have hD := hD0.imp (fun hh => hh) noDeferL_spec
 refine wp_region_rgl_text PQ_SQ allWild hD ?_
 have := rgp_rgl _ (fun p hp => by simpa using (pairsFrom_mem l 0 p hp).2) a w (h a w ho hi hw)
 rw [pairsFrom_fst] at this
 rw [List.range_eq_range']
 simpa using this
theorem X_draw {id : Nat} {l : List Oper} (cs : CF) (hm : c.P.follows .mixedOrders = true) (hB : schB cs l.toArray (List.range l.length) = true) (h : XR c cs l.toArray (pairsFrom 0 l) k E hp) (hD0 : c.r = none ∨ noDeferL l = true := by first | exact .inl rfl | exact .inr rfl) (hE0 : c.pd = true := by rfl) :
  X c (.code (.region id l.toArray true) :: k) E hp := by
 intro a w ho hi hw
 have hD := hD0.imp (fun hh => hh) noDeferL_spec
 refine wp_region_rgl PQ_SQ (PQ_put hE0) cs _ hD hm hB ?_
 have := rgp_rgl _ (fun p hp => by simpa using (pairsFrom_mem l 0 p hp).2) a { w with drawn := w.drawn + 1 } (h a { w with drawn := w.drawn + 1 } ho ⟨hi.os, hi.tape, hi.output⟩ hw)
 rw [pairsFrom_fst] at this
 rw [List.range_eq_range']
 simpa using this
def pick (ops : List Oper) : List Nat → Option (List (Nat × Oper))
  | [] => some []
  | i :: r => match ops[i]? with
    | none => none
    | some o => match pick ops r with
      | none => none
      | some l => some ((i, o) :: l)
theorem pick_spec {ops : List Oper} : ∀ {ord : List Nat} {l : List (Nat × Oper)}, pick ops ord = some l → l.map (·.1) = ord ∧ ∀ p ∈ l, ops[p.1]? = some p.2
 | [], l, h => by simp only [pick] at h; cases h; simp
 | i :: r, l, h => by
  simp only [pick] at h
  split at h
  ·cases h
  ·rename_i o ho
   split at h
   ·cases h
   ·rename_i l' hl'
    cases h
    obtain ⟨h1, h2⟩ := pick_spec hl'
    refine ⟨by simp [h1], fun p hp => ?_⟩
    rcases List.mem_cons.1 hp with rfl | hp
    ·exact ho
    ·exact h2 p hp
theorem X_draw_in {id : Nat} {l : List Oper} (cs : CF) (ord : List Nat) {lo : List (Nat × Oper)} (hm : c.P.follows .mixedOrders = true) (hB : schB cs l.toArray ord = true) (hl : pick l ord = some lo)
  (h : XR c cs l.toArray lo k E hp) (hD0 : c.r = none ∨ noDeferL l = true := by first | exact .inl rfl | exact .inr rfl) (hE0 : c.pd = true := by rfl) : X c (.code (.region id l.toArray true) :: k) E hp := by
 intro a w ho hi hw
 have hD := hD0.imp (fun hh => hh) noDeferL_spec
 refine wp_region_rgl PQ_SQ (PQ_put hE0) cs ord hD hm hB ?_
 obtain ⟨h1, h2⟩ := pick_spec hl
 have := rgp_rgl _ (fun p hp => by simpa using h2 p hp) a { w with drawn := w.drawn + 1 } (h a { w with drawn := w.drawn + 1 } ho ⟨hi.os, hi.tape, hi.output⟩ hw)
 rwa [h1] at this
def clsOf (o : Oper) : Cls :=
  match o.op with
  | .move _ | .assign _ | .pick .. | .nilCheck _ | .fieldAddr .. | .field .. | .indexAddr .. | .index .. | .extract .. | .unOp .. | .makeInterface .. | .build .. => .pure
  | .binOp .. | .load .. | .convert .. | .slice .. => .load
  | .call { callee := .builtin .len, .. } | .call { callee := .builtin .cap, .. } | .call { callee := .builtin .min, .. } | .call { callee := .builtin .max, .. } => .load
  | .buildSlice .. | .alloc .. | .box .. | .makeSlice .. => .grow
  | _ => .wild
def byKind : CF := fun _ o => clsOf o
def butAt (l : List (Nat × Cls)) : CF := fun i o =>
  match l with
  | [] => clsOf o
  | (j, x) :: r => match Nat.beq i j with
    | true => x
    | false => butAt r i o
theorem X_if {x : Operand} {t e : Code} {p : Prop} [Decidable p] (hx : ev E x = some (.bool (decide p))) (ht : p → X c (.code t :: k) E hp) (hf : ¬ p → X c (.code e :: k) E hp) :
  X c (.code (.cond x t e) :: k) E hp := X_cond hx (fun h => ht (of_decide_eq_true h)) (fun h => hf (of_decide_eq_false h))
theorem X_then {x : Operand} {t e : Code} (hx : ev E x = some (.bool true)) (ht : X c (.code t :: k) E hp) : X c (.code (.cond x t e) :: k) E hp := X_cond hx (fun _ => ht) (fun h => by cases h)
theorem X_else {x : Operand} {t e : Code} (hx : ev E x = some (.bool false)) (hf : X c (.code e :: k) E hp) : X c (.code (.cond x t e) :: k) E hp := X_cond hx (fun h => by cases h) (fun _ => hf)
theorem XR_nil (h : X c k E hp) : XR c cs ops [] k E hp := h
theorem XR_sub {E' : Env} {l : List (Nat × Oper)} (hs : Sub E' E) (h : XR c cs ops l k E' hp) : XR c cs ops l k E hp := fun a w ho hi hw => h a w ⟨ho.1.sub hs, ho.2⟩ hi hw
def Op1 (cl : Cls) (P : Program) (o : Oper) (E : Env) (hp : Heap) (v : Value) : Prop :=
  ∀ n a, OK n E a → match cl with
    | .pure => ∀ w', (execOp a.eval o).run P w' = .ok (.value v) w'
    | _ => ∀ w' : World, Ext hp w'.heap → (execOp a.eval o).run P w' = .ok (.value v) w'
theorem Op1.of_pure {cl : Cls} {P : Program} {o : Oper} {v : Value} (h : ∀ n a, OK n E a → ∀ w', (execOp a.eval o).run P w' = .ok (.value v) w') : Op1 cl P o E hp v := by
 intro n a ho
 have := h n a ho
 cases cl <;> first | exact this | exact fun w' _ => this w'
theorem XR_1 {i : Nat} {o : Oper} {rest : List (Nat × Oper)} {v : Value} (hf : fits c.fn.ntmps o.dst = true) (hw : wantedE ops E o = some true) (h1 : Op1 (cs i o) c.P o E hp v)
  (h : XR c cs ops rest k (E.putD o.dst v) hp) : XR c cs ops ((i, o) :: rest) k E hp := by
 intro a w ho hi hh
 subst hh
 simp only [rgp, wantedE_spec hw ho.1, if_true]
 have h2 := h1 _ a ho.1
 have h3 := h (a.put o.dst v) w ⟨ho.1.put v hf, (put_defers _ _ _).trans ho.2⟩ hi rfl
 generalize cs i o = cl at h2 ⊢
 cases cl with
 | pure => exact ⟨v, h2, h3⟩
 | load => exact ⟨v, h2, h3⟩
 | grow => simp only [stepC, Oper.wp, h2 w (Ext.refl _), Oper.upon]; exact ⟨Ext.refl _, h3⟩
 | wild => refine wq_of_wp ?_; simp only [Oper.wp, h2 w (Ext.refl _), Oper.upon]; exact h3
theorem XR_pass {i : Nat} {o : Oper} {rest : List (Nat × Oper)} (hf : fits c.fn.ntmps o.dst = true) (hw : wantedE ops E o = some false) (h : XR c cs ops rest k (E.putD o.dst undef) hp) :
  XR c cs ops ((i, o) :: rest) k E hp := by
 intro a w ho hi hh
 simp only [rgp, wantedE_spec hw ho.1, Bool.false_eq_true, if_false]
 exact h (a.put o.dst undef) w ⟨ho.1.put undef hf, (put_defers _ _ _).trans ho.2⟩ hi hh
theorem XR_a {i : Nat} {d : Tmp} {op : Op} {ty : TypeId} {pos : String} {af : Array Edge} {g : Option (Nat × Bool)} {rest : List (Nat × Oper)} {v : Value}
  (h1 : Op1 (cs i ⟨some d, op, ty, pos, af, g⟩) c.P ⟨some d, op, ty, pos, af, g⟩ E hp v) (hf : Nat.blt d c.fn.ntmps = true) (hw : wantedE ops E ⟨some d, op, ty, pos, af, g⟩ = some true)
  (h : XR c cs ops rest k ((d, v) :: E) hp) : XR c cs ops ((i, ⟨some d, op, ty, pos, af, g⟩) :: rest) k E hp := XR_1 hf hw h1 h
theorem XR_no {i : Nat} {d : Tmp} {op : Op} {ty : TypeId} {pos : String} {af : Array Edge} {g : Option (Nat × Bool)} {rest : List (Nat × Oper)}
  (hw : wantedE ops E ⟨some d, op, ty, pos, af, g⟩ = some false) (hf : Nat.blt d c.fn.ntmps = true)
  (h : XR c cs ops rest k ((d, undef) :: E) hp) : XR c cs ops ((i, ⟨some d, op, ty, pos, af, g⟩) :: rest) k E hp := XR_pass hf hw h
theorem XR_as {l : List (Nat × Oper)} {t : Nat} {v : Value} (v' : Value) (hv : v = v') (h : XR c cs ops l k ((t, v') :: E) hp) : XR c cs ops l k ((t, v) :: E) hp := by subst hv; exact h
theorem XR_split {l : List (Nat × Oper)} (t : Nat) {b : Bool} (hb : E.get t = some (.bool b)) (ht : b = true → XR c cs ops l k ((t, .bool true) :: E) hp) (hf : b = false → XR c cs ops l k ((t, .bool false) :: E) hp) :
  XR c cs ops l k E hp := by
 have hs : ∀ b' : Bool, b = b' → Sub ((t, .bool b') :: E) E := fun b' e => Sub.cons (e ▸ hb) (Sub.refl E)
 cases b
 ·exact XR_sub (hs false rfl) (hf rfl)
 ·exact XR_sub (hs true rfl) (ht rfl)
theorem XR_if {l : List (Nat × Oper)} (t : Nat) {p : Prop} [Decidable p] (hb : E.get t = some (.bool (decide p))) (ht : p → XR c cs ops l k ((t, .bool true) :: E) hp) (hf : ¬ p → XR c cs ops l k ((t, .bool false) :: E) hp) :
  XR c cs ops l k E hp := XR_split t hb (fun h => ht (of_decide_eq_true h)) (fun h => hf (of_decide_eq_false h))
def OpL (P : Program) (o : Oper) (E : Env) (hp : Heap) (Φ : Value → Heap → Prop) : Prop :=
  ∀ n a w, OK n E a → w.heap = hp → ∀ K : Act → World → Prop, (∀ v w', Inv w w' → Φ v w'.heap → K (a.put o.dst v) w') → o.wp P a w K NoQ
theorem XR_w {i : Nat} {o : Oper} {rest : List (Nat × Oper)} {Φ : Value → Heap → Prop} (hf : fits c.fn.ntmps o.dst = true) (hw : wantedE ops E o = some true) (hc : cs i o = .wild) (h1 : OpL c.P o E hp Φ)
  (h : ∀ v hp', Φ v hp' → XR c cs ops rest k (E.putD o.dst v) hp') : XR c cs ops ((i, o) :: rest) k E hp := by
 intro a w ho hi hh
 simp only [rgp, wantedE_spec hw ho.1, if_true, hc, stepC]
 exact wq_of_wp (h1 _ a w ho.1 hh _ fun v w' hi' hΦ => h v w'.heap hΦ (a.put o.dst v) w' ⟨ho.1.put v hf, (put_defers _ _ _).trans ho.2⟩ (hi.trans hi') rfl)
theorem XR_wa {i : Nat} {d : Tmp} {op : Op} {ty : TypeId} {pos : String} {af : Array Edge} {g : Option (Nat × Bool)} {rest : List (Nat × Oper)} {Φ : Value → Heap → Prop}
  (h1 : OpL c.P ⟨some d, op, ty, pos, af, g⟩ E hp Φ) (hc : cs i ⟨some d, op, ty, pos, af, g⟩ = .wild) (hf : Nat.blt d c.fn.ntmps = true) (hw : wantedE ops E ⟨some d, op, ty, pos, af, g⟩ = some true)
  (h : ∀ v hp', Φ v hp' → XR c cs ops rest k ((d, v) :: E) hp') : XR c cs ops ((i, ⟨some d, op, ty, pos, af, g⟩) :: rest) k E hp := XR_w hf hw hc h1 h
theorem XR_wn {i : Nat} {op : Op} {ty : TypeId} {pos : String} {af : Array Edge} {g : Option (Nat × Bool)} {rest : List (Nat × Oper)} {Φ : Value → Heap → Prop}
  (h1 : OpL c.P ⟨none, op, ty, pos, af, g⟩ E hp Φ) (hc : cs i ⟨none, op, ty, pos, af, g⟩ = .wild) (hw : wantedE ops E ⟨none, op, ty, pos, af, g⟩ = some true)
  (h : ∀ v hp', Φ v hp' → XR c cs ops rest k E hp') : XR c cs ops ((i, ⟨none, op, ty, pos, af, g⟩) :: rest) k E hp := XR_w rfl hw hc h1 h
theorem XR_g {i : Nat} {o : Oper} {rest : List (Nat × Oper)} {Φ : Value → Heap → Prop} (hf : fits c.fn.ntmps o.dst = true) (hw : wantedE ops E o = some true) (hc : cs i o = .grow) (h1 : OpL c.P o E hp Φ)
  (hx : ∀ v hp', Φ v hp' → Ext hp hp') (h : ∀ v hp', Φ v hp' → XR c cs ops rest k (E.putD o.dst v) hp') : XR c cs ops ((i, o) :: rest) k E hp := by
 intro a w ho hi hh
 simp only [rgp, wantedE_spec hw ho.1, if_true, hc, stepC]
 exact wp_NoQ (h1 _ a w ho.1 hh _ fun v w' hi' hΦ => ⟨by rw [hh]; exact hx v w'.heap hΦ, h v w'.heap hΦ (a.put o.dst v) w' ⟨ho.1.put v hf, (put_defers _ _ _).trans ho.2⟩ (hi.trans hi') rfl⟩)
theorem XR_ga {i : Nat} {d : Tmp} {op : Op} {ty : TypeId} {pos : String} {af : Array Edge} {g : Option (Nat × Bool)} {rest : List (Nat × Oper)} {Φ : Value → Heap → Prop}
  (h1 : OpL c.P ⟨some d, op, ty, pos, af, g⟩ E hp Φ) (hc : cs i ⟨some d, op, ty, pos, af, g⟩ = .grow) (hf : Nat.blt d c.fn.ntmps = true) (hw : wantedE ops E ⟨some d, op, ty, pos, af, g⟩ = some true)
  (hx : ∀ v hp', Φ v hp' → Ext hp hp') (h : ∀ v hp', Φ v hp' → XR c cs ops rest k ((d, v) :: E) hp') : XR c cs ops ((i, ⟨some d, op, ty, pos, af, g⟩) :: rest) k E hp := XR_g hf hw hc h1 hx h
end
attribute [irreducible] X XR
end Go.Bn
end

section
namespace Go.Bn
open Go
structure Res where
  P : Heap → (Nat → Prop) → Prop
  loc : ∀ {h h' : Heap} {S : Nat → Prop}, P h S → (∀ k, S k → h'[k]? = h[k]?) → P h' S
  lt : ∀ {h : Heap} {S : Nat → Prop}, P h S → ∀ k, S k → k < h.size
def HS (B : Nat) (hp : Heap) : List Res → (Nat → Prop) → Prop
  | [], S => ∀ k, ¬ S k
  | r :: rs, S => ∃ S1 S2, r.P hp S1 ∧ HS B hp rs S2 ∧ (∀ k, S1 k → ¬ S2 k) ∧ (∀ k, S k ↔ S1 k ∨ S2 k) ∧ ∀ k, S1 k → B ≤ k
def H (B : Nat) (hp : Heap) (rs : List Res) : Prop := ∃ S, HS B hp rs S
theorem HS.lt {B : Nat} {hp : Heap} : ∀ {rs : List Res} {S : Nat → Prop}, HS B hp rs S → ∀ k, S k → k < hp.size
 | [], _, h, k, hk => absurd hk (h k)
 | r :: rs, S, ⟨S1, S2, h1, h2, _, hS, _⟩, k, hk => by
  rcases (hS k).1 hk with h | h
  ·exact r.lt h1 k h
  ·exact HS.lt h2 k h
theorem HS.loc {B : Nat} {hp hp' : Heap} : ∀ {rs : List Res} {S : Nat → Prop}, HS B hp rs S → (∀ k, S k → hp'[k]? = hp[k]?) → HS B hp' rs S
 | [], _, h, _ => h
 | r :: _, _, ⟨S1, S2, h1, h2, hd, hS, hb⟩, he => ⟨S1, S2, r.loc h1 (fun k hk => he k ((hS k).2 (.inl hk))), HS.loc h2 (fun k hk => he k ((hS k).2 (.inr hk))), hd, hS, hb⟩
theorem HS.iff {B : Nat} {hp : Heap} : ∀ {rs : List Res} {S S' : Nat → Prop}, HS B hp rs S → (∀ k, S' k ↔ S k) → HS B hp rs S'
 | [], _, _, h, he => fun k hk => h k ((he k).1 hk)
 | _ :: _, _, _, ⟨S1, S2, h1, h2, hd, hS, hb⟩, he => ⟨S1, S2, h1, h2, hd, fun k => (he k).trans (hS k), hb⟩
theorem H.nil (B : Nat) (hp : Heap) : H B hp [] := ⟨fun _ => False, fun _ h => h⟩
theorem H.ext {B : Nat} {hp hp' : Heap} {rs : List Res} (h : H B hp rs) (hx : Ext hp hp') : H B hp' rs := by
 obtain ⟨S, h⟩ := h
 exact ⟨S, h.loc fun k hk => hx.blk k (h.lt k hk)⟩
theorem H.tail {B : Nat} {hp : Heap} {r : Res} {rs : List Res} (h : H B hp (r :: rs)) : H B hp rs := by
 obtain ⟨S, S1, S2, _, h2, _⟩ := h; exact ⟨S2, h2⟩
theorem HS.perm {B : Nat} {hp : Heap} {rs rs' : List Res} (hp' : List.Perm rs rs') : ∀ {S : Nat → Prop}, HS B hp rs S → HS B hp rs' S := by
 induction hp' with
 | nil => exact fun h => h
 | cons r _ ih => rintro S ⟨S1, S2, h1, h2, hd, hS, hb⟩; exact ⟨S1, S2, h1, ih h2, hd, hS, hb⟩
 | swap r r' l =>
  rintro S ⟨S1, S2, h1, ⟨T1, T2, k1, k2, kd, kS, kb⟩, hd, hS, hb⟩
  refine ⟨T1, fun k => S1 k ∨ T2 k, k1, ⟨S1, T2, h1, k2, fun k hk ht => hd k hk ((kS k).2 (.inr ht)), fun _ => Iff.rfl, hb⟩, ?_, ?_, kb⟩
  ·intro k hk hor
   rcases hor with h | h
   ·exact hd k h ((kS k).2 (.inl hk))
   ·exact kd k hk h
  ·intro k
   rw [hS k, kS k]
   constructor
   ·rintro (h | h | h)
    ·exact .inr (.inl h)
    ·exact .inl h
    ·exact .inr (.inr h)
   ·rintro (h | h | h)
    ·exact .inr (.inl h)
    ·exact .inl h
    ·exact .inr (.inr h)
 | trans _ _ ih1 ih2 => exact fun h => ih2 (ih1 h)
theorem H.perm {B : Nat} {hp : Heap} {rs rs' : List Res} (h : H B hp rs) (hp' : List.Perm rs rs') : H B hp rs' := h.imp fun _ h => h.perm hp'
def Upd (r : Res) (hp : Heap) (r' : Res) (hp' : Heap) : Prop :=
  hp.size ≤ hp'.size ∧ ∀ S, r.P hp S → ∃ S', r'.P hp' S' ∧ (∀ k, S' k → S k ∨ hp.size ≤ k) ∧ ∀ k, k < hp.size → ¬ S k → hp'[k]? = hp[k]?
theorem H.upd {B : Nat} {hp hp' : Heap} {r r' : Res} {rs : List Res} (h : H B hp (r :: rs)) (hB : B ≤ hp.size) (u : Upd r hp r' hp') : H B hp' (r' :: rs) ∧ Low B hp hp' := by
 obtain ⟨S, S1, S2, h1, h2, hd, hS, hb⟩ := h
 obtain ⟨hsz, u⟩ := u
 obtain ⟨S', hr', hfr, hk⟩ := u S1 h1
 refine ⟨⟨fun k => S' k ∨ S2 k, S', S2, hr', h2.loc (fun k hk2 => hk k (h2.lt k hk2) (fun h => hd k h hk2)), ?_, fun _ => Iff.rfl, ?_⟩, hsz, ?_⟩
 ·intro k hk' hk2
  rcases hfr k hk' with h | h
  ·exact hd k h hk2
  ·have := h2.lt k hk2; omega
 ·intro k hk'
  rcases hfr k hk' with h | h
  ·exact hb k h
  ·omega
 ·intro k hkB
  exact hk k (by omega) (fun h => by have := hb k h; omega)
def New (r : Res) (hp hp' : Heap) : Prop := Ext hp hp' ∧ ∃ S, r.P hp' S ∧ ∀ k, S k → hp.size ≤ k
theorem H.new {B : Nat} {hp hp' : Heap} {r : Res} {rs : List Res} (h : H B hp rs) (hB : B ≤ hp.size) (n : New r hp hp') : H B hp' (r :: rs) ∧ Low B hp hp' := by
 obtain ⟨S, h⟩ := h
 obtain ⟨hx, S1, h1, hk⟩ := n
 refine ⟨⟨fun k => S1 k ∨ S k, S1, S, h1, h.loc fun k hk => hx.blk k (h.lt k hk), fun k h1 h2 => ?_, fun _ => Iff.rfl, fun k h1 => Nat.le_trans hB (hk k h1)⟩, hx.mono hB⟩
 have := hk k h1; have := h.lt k h2; omega
theorem H.join {B : Nat} {hp hp' : Heap} {rs rs' : List Res} (h : H B hp rs) (hB : B ≤ hp.size) (hx : Ext hp hp') (h' : H hp.size hp' rs') : H B hp' (rs' ++ rs) := by
 obtain ⟨S, h⟩ := h
 obtain ⟨S', h'⟩ := h'
 have hl := h.loc (hp' := hp') fun k hk => hx.blk k (h.lt k hk)
 have key : ∀ {rs' : List Res} {S' : Nat → Prop}, HS hp.size hp' rs' S' → HS B hp' (rs' ++ rs) (fun k => S' k ∨ S k) := by
  intro rs'
  induction rs' with
  | nil => intro S' h'; exact hl.iff fun k => ⟨fun hk => hk.resolve_left (h' k), .inr⟩
  | cons r rs' ih =>
   rintro S' ⟨S1, S2, h1, h2, hd, hS, hb⟩
   refine ⟨S1, fun k => S2 k ∨ S k, h1, ih h2, ?_, ?_, fun k hk => Nat.le_trans hB (hb k hk)⟩
   ·intro k hk hor
    rcases hor with h0 | h0
    ·exact hd k hk h0
    ·have := hb k hk; have := h.lt k h0; omega
   ·intro k
    simp only [hS k, or_assoc]
 exact ⟨_, key h'⟩
def starR (a b : Res) : Res where
  P h S := ∃ S1 S2, a.P h S1 ∧ b.P h S2 ∧ (∀ k, S1 k → ¬ S2 k) ∧ ∀ k, S k ↔ S1 k ∨ S2 k
  loc := by
    rintro h h' S ⟨S1, S2, h1, h2, hd, hS⟩ he
    exact ⟨S1, S2, a.loc h1 (fun k hk => he k ((hS k).2 (.inl hk))), b.loc h2 (fun k hk => he k ((hS k).2 (.inr hk))), hd, hS⟩
  lt := by
    rintro h S ⟨S1, S2, h1, h2, hd, hS⟩ k hk
    rcases (hS k).1 hk with h | h
    · exact a.lt h1 k h
    · exact b.lt h2 k h
def exR {α : Type} (f : α → Res) : Res where
  P h S := ∃ x, (f x).P h S
  loc := by rintro h h' S ⟨x, hx⟩ he; exact ⟨x, (f x).loc hx he⟩
  lt := by rintro h S ⟨x, hx⟩; exact (f x).lt hx
def andR (p : Prop) (r : Res) : Res where
  P h S := p ∧ r.P h S
  loc := by rintro h h' S ⟨hp, hx⟩ he; exact ⟨hp, r.loc hx he⟩
  lt := by rintro h S ⟨_, hx⟩; exact r.lt hx
def emp : Res where
  P _ S := ∀ k, ¬ S k
  loc := fun h _ => h
  lt := fun h k hk => absurd hk (h k)
theorem H.star {B : Nat} {hp : Heap} {a b : Res} {rs : List Res} : H B hp (starR a b :: rs) ↔ H B hp (a :: b :: rs) := by
 constructor
 ·rintro ⟨S, S1, S2, ⟨T1, T2, t1, t2, td, tS⟩, h2, hd, hS, hb⟩
  refine ⟨S, T1, fun k => T2 k ∨ S2 k, t1, ⟨T2, S2, t2, h2, fun k hk => hd k ((tS k).2 (.inr hk)), fun _ => Iff.rfl, fun k hk => hb k ((tS k).2 (.inr hk))⟩, ?_, ?_, fun k hk => hb k ((tS k).2 (.inl hk))⟩
  ·rintro k hk (h | h)
   ·exact td k hk h
   ·exact hd k ((tS k).2 (.inl hk)) h
  ·intro k; simp only [hS k, tS k, or_assoc]
 ·rintro ⟨S, T1, S', t1, ⟨T2, S2, t2, h2, td2, tS2, tb2⟩, hd, hS, hb⟩
  refine ⟨S, fun k => T1 k ∨ T2 k, S2, ⟨T1, T2, t1, t2, fun k hk h => hd k hk ((tS2 k).2 (.inl h)), fun _ => Iff.rfl⟩, h2, ?_, ?_, ?_⟩
  ·rintro k (h | h) h'
   ·exact hd k h ((tS2 k).2 (.inr h'))
   ·exact td2 k h h'
  ·intro k; simp only [hS k, tS2 k, or_assoc]
  ·rintro k (h | h)
   ·exact hb k h
   ·exact tb2 k h
theorem H.ex {B : Nat} {hp : Heap} {α : Type} {f : α → Res} {rs : List Res} : H B hp (exR f :: rs) ↔ ∃ x, H B hp (f x :: rs) := by
 constructor
 ·rintro ⟨S, S1, S2, ⟨x, hx⟩, r⟩; exact ⟨x, S, S1, S2, hx, r⟩
 ·rintro ⟨x, S, S1, S2, hx, r⟩; exact ⟨S, S1, S2, ⟨x, hx⟩, r⟩
theorem H.and {B : Nat} {hp : Heap} {p : Prop} {r : Res} {rs : List Res} : H B hp (andR p r :: rs) ↔ p ∧ H B hp (r :: rs) := by
 constructor
 ·rintro ⟨S, S1, S2, ⟨x, hx⟩, r⟩; exact ⟨x, S, S1, S2, hx, r⟩
 ·rintro ⟨x, S, S1, S2, hx, r⟩; exact ⟨S, S1, S2, ⟨x, hx⟩, r⟩
theorem H.emp {B : Nat} {hp : Heap} {rs : List Res} : H B hp (Bn.emp :: rs) ↔ H B hp rs := by
 constructor
 ·exact H.tail
 ·rintro ⟨S, h⟩
  exact ⟨S, fun _ => False, S, fun _ h => h, h, fun _ h => h.elim, fun k => (or_iff_right (fun h => h)).symm, fun _ h => h.elim⟩
def cellH (hp : Heap) (a : Addr) : Option Value :=
  match hp[a.block]? with
  | some (.cells c _ _) => if a.spot.isSome then none else c[a.off]?
  | _ => none
theorem cell_world (w : World) (a : Addr) : w.cell? a = cellH w.heap a := rfl
def frozenH (hp : Heap) (a : Addr) : Bool :=
  match hp[a.block]? with
  | some (.cells _ _ (lo, hi)) => lo ≤ a.off && a.off < hi
  | _ => false
theorem cellH_lt {hp : Heap} {a : Addr} {v : Value} (h : cellH hp a = some v) : a.block < hp.size := by
 unfold cellH at h
 split at h
 ·rename_i hh; exact (Array.getElem?_eq_some_iff.1 hh).1
 ·cases h
theorem cellH_ext {hp hp' : Heap} {a : Addr} {v : Value} (hx : Ext hp hp') (h : cellH hp a = some v) : cellH hp' a = some v := by
 have := cellH_lt h
 unfold cellH at *
 rw [hx.blk _ this]; exact h
def pt (p : Nat) (T : TypeId) (cs : List Value) : Res where
  P h S := (∀ k, S k ↔ k = p) ∧ h[p]? = some (.cells cs.toArray T (0, 0))
  loc := by rintro h h' S ⟨hS, hx⟩ he; exact ⟨hS, by rw [he p ((hS p).2 rfl)]; exact hx⟩
  lt := by rintro h S ⟨hS, hx⟩ k hk; rw [(hS k).1 hk]; exact (Array.getElem?_eq_some_iff.1 hx).1
def setH (hp : Heap) (a : Addr) (v : Value) : Heap :=
  hp.modify a.block fun
    | .cells c elem frozen => .cells (if a.spot.isSome then c else c.setIfInBounds a.off v) elem frozen
    | o => o
theorem setH_size (hp : Heap) (a : Addr) (v : Value) : (setH hp a v).size = hp.size := by simp [setH]
theorem setH_other (hp : Heap) (a : Addr) (v : Value) (k : Nat) (hk : k ≠ a.block) : (setH hp a v)[k]? = hp[k]? := by
 simp only [setH, Array.getElem?_modify]; rw [if_neg (Ne.symm hk)]
theorem setH_same {hp : Heap} {p i : Nat} {cs : Array Value} {T : TypeId} {fr : Nat × Nat} (v : Value) (h : hp[p]? = some (.cells cs T fr)) : (setH hp ⟨p, i, none⟩ v)[p]? = some (.cells (cs.setIfInBounds i v) T fr) := by
 simp [setH, Array.getElem?_modify, h]
theorem upd_pt {p i : Nat} {T : TypeId} {cs : List Value} {hp : Heap} (v : Value) : Upd (pt p T cs) hp (pt p T (cs.set i v)) (setH hp ⟨p, i, none⟩ v) := by
 refine ⟨by rw [setH_size]; exact Nat.le_refl _, fun S ⟨hS, h⟩ => ⟨S, ⟨hS, ?_⟩, fun k hk => .inl hk, fun k _ hk => setH_other _ _ _ _ (fun e => hk ((hS k).2 e))⟩⟩
 rw [setH_same v h]
 simp
theorem new_pt {T : TypeId} {cs : List Value} (hp : Heap) : New (pt hp.size T cs) hp (hp.push (.cells cs.toArray T)) := by
 refine ⟨⟨by simp, fun k hk => by rw [Array.getElem?_push]; rw [if_neg (by omega)]⟩, fun k => k = hp.size, ⟨fun _ => Iff.rfl, by simp⟩, fun k hk => by omega⟩
def unfrozen (n : Nat) (fr : Nat × Nat) : Prop := fr.1 = fr.2 ∨ n ≤ fr.1
theorem unfrozen.free {n : Nat} {fr : Nat × Nat} (h : unfrozen n fr) : ∀ i, i < n → ¬ (fr.1 ≤ i ∧ i < fr.2) := by
 intro i hi hh; rcases h with h | h <;> omega
def RowAt (e : TypeId) (sz : Nat) (v : Value) (vs : List Value) (h : Heap) (S : Nat → Prop) : Prop :=
  (v = .slice none 0 0 ∧ vs = [] ∧ ∀ k, ¬ S k) ∨
  ∃ g n cap cur fr, v = .slice (some ⟨g, 0, none⟩) n cap ∧ h[g]? = some (.cells cur e fr) ∧ n ≤ cap ∧ cap ≤ maxLen ∧ cur.size = cap * sz ∧ cur.toList.take (n * sz) = vs ∧ vs.length = n * sz ∧ unfrozen cur.size fr ∧ ∀ k, S k ↔ k = g
def row (e : TypeId) (sz : Nat) (v : Value) (vs : List Value) : Res where
  P := RowAt e sz v vs
  loc := by
    rintro h h' S (⟨h1, h2, h3⟩ | ⟨g, n, cap, cur, fr, h1, h2, h3, h4, h5, h6, h7, h8, hS⟩) he
    · exact .inl ⟨h1, h2, h3⟩
    · exact .inr ⟨g, n, cap, cur, fr, h1, by rw [he g ((hS g).2 rfl)]; exact h2, h3, h4, h5, h6, h7, h8, hS⟩
  lt := by
    rintro h S (⟨h1, h2, h3⟩ | ⟨g, n, cap, cur, fr, h1, h2, h3, h4, h5, h6, h7, h8, hS⟩) k hk
    · exact absurd hk (h3 k)
    · rw [(hS k).1 hk]; exact (Array.getElem?_eq_some_iff.1 h2).1
def Rd (hp : Heap) (A : Option Addr) (vs : List Value) : Prop :=
  vs = [] ∨ ∃ b o, A = some ⟨b, o, none⟩ ∧ ∀ i u, vs[i]? = some u → cellH hp ⟨b, o + i, none⟩ = some u
theorem Rd.nil (hp : Heap) (A : Option Addr) : Rd hp A [] := .inl rfl
theorem Rd.at_ {hp : Heap} {A : Option Addr} {vs : List Value} (h : Rd hp A vs) (hl : 0 < vs.length) : ∃ b o, A = some ⟨b, o, none⟩ ∧ ∀ i u, vs[i]? = some u → cellH hp ⟨b, o + i, none⟩ = some u := by
 rcases h with rfl | h
 ·simp at hl
 ·exact h
theorem Rd.ext {hp hp' : Heap} {A : Option Addr} {vs : List Value} (h : Rd hp A vs) (hx : Ext hp hp') : Rd hp' A vs := by
 rcases h with h | ⟨b, o, hA, hc⟩
 ·exact .inl h
 ·exact .inr ⟨b, o, hA, fun i u hu => cellH_ext hx (hc i u hu)⟩
theorem Rd.take {hp : Heap} {A : Option Addr} {vs : List Value} (h : Rd hp A vs) (n : Nat) : Rd hp A (vs.take n) := by
 rcases h with rfl | ⟨b, o, hA, hc⟩
 ·exact .inl (by simp)
 ·refine .inr ⟨b, o, hA, fun i u hu => hc i u ?_⟩
  rw [List.getElem?_take] at hu
  split at hu
  ·exact hu
  ·cases hu
theorem RowAt.rd {e : TypeId} {sz : Nat} {v : Value} {vs : List Value} {h : Heap} {S : Nat → Prop} (hr : RowAt e sz v vs h S) : ∃ A n c, v = .slice A n c ∧ vs.length = n * sz ∧ n ≤ c ∧ c ≤ maxLen ∧ Rd h A vs := by
 rcases hr with ⟨rfl, rfl, _⟩ | ⟨g, n, cap, cur, fr, rfl, h2, h3, h4, h5, h6, h7, h8, hS⟩
 ·exact ⟨none, 0, 0, rfl, by simp, Nat.le_refl _, by simp [maxLen], .inl rfl⟩
 ·refine ⟨_, n, cap, rfl, h7, h3, h4, .inr ⟨g, 0, rfl, fun i u hu => ?_⟩⟩
  simp only [cellH, h2, Nat.zero_add]
  rw [← h6, List.getElem?_take] at hu
  split at hu
  ·simpa using hu
  ·cases hu
theorem perm_set : ∀ {rs : List Res} {j : Nat} {r : Res}, rs[j]? = some r → List.Perm rs (r :: rs.eraseIdx j) ∧ ∀ r', List.Perm (r' :: rs.eraseIdx j) (rs.set j r')
 | [], _, _, h => by simp at h
 | x :: rs, 0, r, h => by
  simp at h; subst h
  exact ⟨List.Perm.refl _, fun r' => List.Perm.refl _⟩
 | x :: rs, j + 1, r, h => by
  obtain ⟨h1, h2⟩ := perm_set (rs := rs) (j := j) (r := r) (by simpa using h)
  refine ⟨?_, fun r' => ?_⟩
  ·simp only [List.eraseIdx_cons_succ]
   exact (h1.cons x).trans (List.Perm.swap _ _ _)
  ·simp only [List.eraseIdx_cons_succ, List.set_cons_succ]
   exact (List.Perm.swap _ _ _).trans ((h2 r').cons x)
structure St (B : Nat) (h0 hp : Heap) (rs : List Res) : Prop where
  low : Low B h0 hp
  base : B ≤ h0.size
  own : H B hp rs
theorem St.here {B : Nat} {h0 hp : Heap} {rs : List Res} (s : St B h0 hp rs) : St B hp hp rs := ⟨Low.refl _ _, Nat.le_trans s.base s.low.size, s.own⟩
theorem St.start (hp : Heap) : St hp.size hp hp [] := ⟨Low.refl _ _, Nat.le_refl _, H.nil _ _⟩
theorem St.trans {B : Nat} {h0 hp hp' : Heap} {rs rs' : List Res} (s : St B h0 hp rs) (t : St B hp hp' rs') : St B h0 hp' rs' := ⟨s.low.trans t.low, s.base, t.own⟩
theorem St.ext {B : Nat} {h0 hp hp' : Heap} {rs : List Res} (s : St B h0 hp rs) (hx : Ext hp hp') : St B h0 hp' rs := ⟨s.low.then_ext s.base hx, s.base, s.own.ext hx⟩
theorem St.join {B : Nat} {h0 hp hp' : Heap} {rs rs' : List Res} (s : St B h0 hp rs) (t : St hp.size hp hp' rs') : St B h0 hp' (rs' ++ rs) :=
 ⟨s.low.then_ext s.base t.low, s.base, s.own.join (Nat.le_trans s.base s.low.size) t.low t.own⟩
theorem St.perm {B : Nat} {h0 hp : Heap} {rs rs' : List Res} (s : St B h0 hp rs) (h : List.Perm rs rs') : St B h0 hp rs' := ⟨s.low, s.base, s.own.perm h⟩
theorem St.tail {B : Nat} {h0 hp : Heap} {r : Res} {rs : List Res} (s : St B h0 hp (r :: rs)) : St B h0 hp rs := ⟨s.low, s.base, s.own.tail⟩
theorem St.drop {B : Nat} {h0 hp : Heap} {rs : List Res} (s : St B h0 hp rs) : St B h0 hp [] := ⟨s.low, s.base, H.nil _ _⟩
theorem St.at_ {B : Nat} {h0 hp : Heap} {rs : List Res} (s : St B h0 hp rs) {j : Nat} {r : Res} (hj : rs[j]? = some r) : ∃ S, r.P hp S ∧ ∀ k, S k → B ≤ k := by
 obtain ⟨S, S1, S2, h1, _, _, _, hb⟩ := s.own.perm (perm_set hj).1
 exact ⟨S1, h1, hb⟩
theorem St.upd {B : Nat} {h0 hp hp' : Heap} {rs : List Res} (s : St B h0 hp rs) {j : Nat} {r r' : Res} (hj : rs[j]? = some r) (u : Upd r hp r' hp') : St B h0 hp' (rs.set j r') := by
 obtain ⟨h1, h2⟩ := (s.own.perm (perm_set hj).1).upd (Nat.le_trans s.base s.low.size) u
 exact ⟨s.low.trans h2, s.base, h1.perm ((perm_set hj).2 r')⟩
theorem St.new {B : Nat} {h0 hp hp' : Heap} {rs : List Res} (s : St B h0 hp rs) {r : Res} (n : New r hp hp') : St B h0 hp' (r :: rs) := by
 obtain ⟨h1, h2⟩ := s.own.new (Nat.le_trans s.base s.low.size) n
 exact ⟨s.low.trans h2, s.base, h1⟩
theorem St.cell {B : Nat} {h0 hp : Heap} {rs : List Res} (s : St B h0 hp rs) (j : Nat) {p i : Nat} {T : TypeId} {cs : List Value} {v : Value} (hj : rs[j]? = some (pt p T cs)) (hv : cs[i]? = some v) : cellH hp ⟨p, i, none⟩ = some v := by
 obtain ⟨S, h, _⟩ := s.at_ hj
 simp [cellH, h.2, hv]
theorem St.row {B : Nat} {h0 hp : Heap} {rs : List Res} (s : St B h0 hp rs) (j : Nat) {e sz : Nat} {v : Value} {vs : List Value} (hj : rs[j]? = some (row e sz v vs)) :
  ∃ A n c, v = .slice A n c ∧ vs.length = n * sz ∧ n ≤ c ∧ c ≤ maxLen ∧ Rd hp A vs := by
 obtain ⟨S, h, _⟩ := s.at_ hj
 exact h.rd
theorem St.rdS {B : Nat} {h0 hp : Heap} {rs : List Res} (s : St B h0 hp rs) (j : Nat) {e sz n c : Nat} {A : Option Addr} {vs : List Value} (hj : rs[j]? = some (Bn.row e sz (.slice A n c) vs)) : vs.length = n * sz ∧ Rd hp A vs := by
 obtain ⟨A', n', c', he, h1, _, _, h2⟩ := s.row j hj
 cases he
 exact ⟨h1, h2⟩
theorem St.star {B : Nat} {h0 hp : Heap} {a b : Res} {rs : List Res} : St B h0 hp (starR a b :: rs) ↔ St B h0 hp (a :: b :: rs) :=
 ⟨fun s => ⟨s.low, s.base, H.star.1 s.own⟩, fun s => ⟨s.low, s.base, H.star.2 s.own⟩⟩
theorem St.ex {B : Nat} {h0 hp : Heap} {α : Type} {f : α → Res} {rs : List Res} : St B h0 hp (exR f :: rs) ↔ ∃ x, St B h0 hp (f x :: rs) :=
 ⟨fun s => (H.ex.1 s.own).imp fun _ h => ⟨s.low, s.base, h⟩, fun ⟨x, s⟩ => ⟨s.low, s.base, H.ex.2 ⟨x, s.own⟩⟩⟩
theorem St.and {B : Nat} {h0 hp : Heap} {p : Prop} {r : Res} {rs : List Res} : St B h0 hp (andR p r :: rs) ↔ p ∧ St B h0 hp (r :: rs) :=
 ⟨fun s => ⟨(H.and.1 s.own).1, s.low, s.base, (H.and.1 s.own).2⟩, fun ⟨h, s⟩ => ⟨s.low, s.base, H.and.2 ⟨h, s.own⟩⟩⟩
theorem St.emp {B : Nat} {h0 hp : Heap} {rs : List Res} : St B h0 hp (Bn.emp :: rs) ↔ St B h0 hp rs :=
 ⟨fun s => ⟨s.low, s.base, H.emp.1 s.own⟩, fun s => ⟨s.low, s.base, H.emp.2 s.own⟩⟩
end Go.Bn
end

/- Function values, and ranges over functions. -/
import Derived.Test.YtpkhilbgkkjebaaOps8
set_option linter.unusedVariables false
set_option linter.unusedSimpArgs false
namespace Go.Bn
open Go

/-! A block that holds some object. -/
def putH (hp : Heap) (p : Nat) (o : Obj) : Heap := hp.setIfInBounds p o
theorem putH_size (hp : Heap) (p : Nat) (o : Obj) : (putH hp p o).size = hp.size := by simp [putH]
theorem putH_same {hp : Heap} {p : Nat} (o : Obj) (h : p < hp.size) : (putH hp p o)[p]? = some o := by simp [putH, h]
theorem putH_other {hp : Heap} {p k : Nat} (o : Obj) (h : k ≠ p) : (putH hp p o)[k]? = hp[k]? := by
  simp only [putH]; rw [Array.getElem?_setIfInBounds_ne (Ne.symm h)]
theorem shutH_put (hp : Heap) (d : Nat) : shutH hp d = putH hp d (.deferred none) := rfl
def obj (p : Nat) (o : Obj) : Res where
  P h S := (∀ k, S k ↔ k = p) ∧ h[p]? = some o
  loc := by rintro h h' S ⟨hS, hx⟩ he; exact ⟨hS, by rw [he p ((hS p).2 rfl)]; exact hx⟩
  lt := by rintro h S ⟨hS, hx⟩ k hk; rw [(hS k).1 hk]; exact (Array.getElem?_eq_some_iff.1 hx).1
theorem upd_obj {p : Nat} {o : Obj} (o' : Obj) {hp : Heap} : Upd (obj p o) hp (obj p o') (putH hp p o') := by
  refine ⟨by rw [putH_size]; exact Nat.le_refl _, fun S ⟨hS, h⟩ => ⟨S, ⟨hS, putH_same _ (Array.getElem?_eq_some_iff.1 h).1⟩, fun k hk => .inl hk, fun k _ hk => putH_other _ (fun e => hk ((hS k).2 e))⟩⟩
theorem new_obj (o : Obj) (hp : Heap) : New (obj hp.size o) hp (hp.push o) := by
  refine ⟨⟨by simp, fun k hk => by rw [Array.getElem?_push]; rw [if_neg (by omega)]⟩, fun k => k = hp.size, ⟨fun _ => Iff.rfl, by simp⟩, fun k hk => by omega⟩
theorem St.obj_at {B : Nat} {h0 hp : Heap} {rs : List Res} (s : St B h0 hp rs) (j : Nat) {p : Nat} {o : Obj} (hj : rs[j]? = some (obj p o)) : hp[p]? = some o := by
  obtain ⟨S, h, _⟩ := s.at_ hj; exact h.2
theorem St.put {B : Nat} {h0 hp : Heap} {rs : List Res} (s : St B h0 hp rs) (j : Nat) {p : Nat} {o : Obj} (o' : Obj) (hj : rs[j]? = some (obj p o)) : St B h0 (putH hp p o') (rs.set j (obj p o')) := s.upd hj (upd_obj o')

/-! Resources in another order. -/
def getR : List Res → Nat → Res
  | [], _ => obj 0 (.deferred none)
  | r :: _, 0 => r
  | _ :: rs, n + 1 => getR rs n
theorem getR_range : ∀ (rs : List Res), (List.range rs.length).map (getR rs) = rs := by
  intro rs
  apply List.ext_getElem
  · simp
  · intro i h1 h2
    simp only [List.getElem_map, List.getElem_range]
    clear h1
    induction rs generalizing i with
    | nil => simp at h2
    | cons r rs ih =>
      cases i with
      | zero => rfl
      | succ i => exact ih i (by simpa using h2)
theorem St.re {B : Nat} {h0 hp : Heap} {rs : List Res} (s : St B h0 hp rs) (n : Nat) (idx : List Nat) (h : idx.Perm (List.range n)) (hn : rs.length = n := by rfl) : St B h0 hp (idx.map (getR rs)) := by
  subst hn
  have e := getR_range rs
  have hp := h.map (getR rs)
  rw [e] at hp
  exact s.perm hp.symm
theorem St.keep {B : Nat} {h0 hp : Heap} : ∀ {rs : List Res} (n : Nat), St B h0 hp rs → St B h0 hp (rs.take n)
  | [], _, s => by simpa using s
  | _ :: _, 0, s => by simpa using s.drop
  | r :: rs, n + 1, s => by
    have h : (r :: rs).Perm ((r :: rs).take (n + 1) ++ (r :: rs).drop (n + 1)) := by rw [List.take_append_drop]
    have s2 := s.perm (h.trans List.perm_append_comm)
    clear s h
    generalize (r :: rs).take (n + 1) = x at *
    generalize (r :: rs).drop (n + 1) = y at *
    induction y with
    | nil => simpa using s2
    | cons a y ih => exact ih s2.tail
section
variable {P : Program} {E : Env} {hp : Heap} {cl : Cls} {d : Option Tmp} {ty : TypeId} {pos : String} {af : Array Edge} {g : Option (Nat × Bool)}
variable {x y : Operand} {t t' : TypeId}
/-- A function value is made. -/
theorem op_mkFunc {k : Nat} {caps : Array Operand} {vs : List Value} (h : evs E caps.toList = some vs) : Op1 cl P ⟨d, .makeFunc (.func k) #[] caps, ty, pos, af, g⟩ E hp (.func (.func k) #[] vs.toArray) :=
  .of_pure fun _ a ho w' => by
    have ha : caps.map a.eval = vs.toArray := by
      apply Array.toList_inj.1
      rw [Array.toList_map, ho.evals h]
    simp [execOp, Instr.makeFunc, ha]
/-- A function value is called. -/
theorem opl_callV {f : FuncId} {args : Array Operand} {ts : Array TypeId} {vs : List Value} {caps : Array Value} {Φ : Value → Heap → Prop} (hx : ev E x = some (.func (.func f) #[] caps)) (h : Ret P f (vs ++ caps.toList) hp Φ) (hargs : evs E args.toList = some vs) (hc : callOk P f = true) :
    OpL P ⟨d, .call ⟨.value x, args, ts⟩, ty, pos, af, g⟩ E hp Φ := by
  intro n a w ho hw K hK
  unfold callOk at hc
  split at hc
  · rename_i fn hfn
    simp only [Bool.and_eq_true, Bool.not_eq_true'] at hc
    obtain ⟨hn, hb⟩ := hc
    have hn' : ¬ (fn.name = "runtime.NumGoroutine") := by simpa using hn
    have hb' : ¬ (fn.body = none) := by intro h; rw [h] at hb; cases hb
    have ha : args.map a.eval = vs.toArray := by
      apply Array.toList_inj.1
      rw [Array.toList_map, ho.evals hargs]
    have hrun : (execOp a.eval ⟨d, .call ⟨.value x, args, ts⟩, ty, pos, af, g⟩).run P w = .ok (.enter f (vs ++ caps.toList).toArray) w := by
      have e : vs.toArray ++ caps = (vs ++ caps.toList).toArray := by apply Array.toList_inj.1; simp
      simp [execOp, resolve, ho.eval hx, Deferred.ofValue, invoke, callFunc, hfn, hn', hb', ha, e]
    simp only [Oper.wp, hrun, Oper.upon]
    refine (h w hw).mono ?_
    rintro e w' ⟨v, rfl, hi, hΦ⟩
    exact hK v w' hi hΦ
  · cases hc

/-- An element of an array that lies somewhere in a block. -/
theorem op_indexO {b o len : Nat} {k : IntKind} {i : Nat} (hx : ev E x = some (.pointer (some ⟨b, o, none⟩))) (hy : ev E y = some (.int k (i : Int))) (ht : arrayEl P t = some (len, 1)) (hi : i < len) :
    Op1 cl P ⟨d, .indexAddr t x y, ty, pos, af, g⟩ E hp (.pointer (some ⟨b, o + i, none⟩)) := by
  have := op_indexA (cl := cl) (hp := hp) (d := d) (ty := ty) (pos := pos) (af := af) (g := g) hx hy ht hi
  rwa [Nat.mul_one] at this
/-- Is a slice nil? -/
def isNone? {α : Type} : Option α → Bool
  | none => true
  | some _ => false
theorem op_slc_eql {A : Option Addr} {m c : Nat} (hx : ev E x = some (.slice A m c)) (hy : ev E y = some (.slice none 0 0)) (ht : isSliceT P t = true) : Op1 cl P ⟨d, .binOp .eql t x y t', ty, pos, af, g⟩ E hp (.bool (isNone? A)) :=
  .of_pure fun n a ho w' => by
    unfold isSliceT at ht
    split at ht
    · rename_i e hu
      have he0 : ∀ dd, (Op.equalIn (dd + 1) t (.slice A m c) (.slice none 0 0)).run P w' = .ok (isNone? A) w' := by
        intro dd
        cases A <;> simp [Op.equalIn, run_underlying hu, isNone?]
      have hm : Op.maxDepth = 9999 + 1 := rfl
      have he := he0 9999
      rw [← hm] at he
      simp [execOp, ho.eval hx, ho.eval hy, eqGuard, binOp, Op.equal, he]
    · cases ht

/-! A call of yield. -/
def RRet (P : Program) (l : Nat) (args : List Value) (hp : Heap) (Φ : Value → Heap → Prop) : Prop :=
  ∀ w : World, w.heap = hp → ∃ f tmps assign body, (Instr.yield l args.toArray).run P w = .ok (.round l f tmps assign body) w ∧
    RoundIn Fence.wide 0 P l f tmps assign body w (fun e w' => ∃ v, e = .returned v ∧ Inv w w' ∧ Φ v w'.heap)
theorem RRet.mono {l : Nat} {args : List Value} {Φ Ψ : Value → Heap → Prop} (h : RRet P l args hp Φ) (hi : ∀ v hp', Φ v hp' → Ψ v hp') : RRet P l args hp Ψ := fun w hw =>
  let ⟨f, tmps, assign, body, h1, h2⟩ := h w hw
  ⟨f, tmps, assign, body, h1, h2.mono fun _ _ ⟨v, he, hI, hf⟩ => ⟨v, he, hI, hi _ _ hf⟩⟩
def OpY (P : Program) (o : Oper) (E : Env) (hp : Heap) (Φ : Value → Heap → Prop) : Prop :=
  ∀ n a w, OK n E a → w.heap = hp → ∀ K : Act → World → Prop, (∀ v w', Inv w w' → Φ v w'.heap → K (a.put o.dst v) w') → ∀ S, wq P S o a w K
theorem opy_yield {l : Nat} {args : Array Operand} {ts : Array TypeId} {vs : List Value} {Φ : Value → Heap → Prop} (hx : ev E x = some (.func (.yield l) #[] #[])) (h : RRet P l vs hp Φ) (hargs : evs E args.toList = some vs) :
    OpY P ⟨d, .call ⟨.value x, args, ts⟩, ty, pos, af, g⟩ E hp Φ := by
  intro n a w ho hw K hK S
  have ha : args.map a.eval = vs.toArray := by
    apply Array.toList_inj.1
    rw [Array.toList_map, ho.evals hargs]
  obtain ⟨f, tmps, assign, body, hy, hR⟩ := h w hw
  have hrun : (execOp a.eval ⟨d, .call ⟨.value x, args, ts⟩, ty, pos, af, g⟩).run P w = .ok (.round l f tmps assign body) w := by
    simp [execOp, resolve, ho.eval hx, Deferred.ofValue, invoke, ha, hy]
  simp only [wq, hrun, upW]
  refine hR.mono ?_
  rintro e w' ⟨v, rfl, hi, hΦ⟩
  exact ⟨v, rfl, hK v w' hi hΦ⟩
end
section
variable {c : Cx} {k : List SItem} {E : Env} {hp : Heap} {ops : Array Oper} {cs : CF}
theorem XR_ya {i : Nat} {d : Tmp} {op : Op} {ty : TypeId} {pos : String} {af : Array Edge} {g : Option (Nat × Bool)} {rest : List (Nat × Oper)} {Φ : Value → Heap → Prop}
    (h1 : OpY c.P ⟨some d, op, ty, pos, af, g⟩ E hp Φ) (hc : cs i ⟨some d, op, ty, pos, af, g⟩ = .wild) (hf : Nat.blt d c.fn.ntmps = true) (hw : wantedE ops E ⟨some d, op, ty, pos, af, g⟩ = some true)
    (h : ∀ v hp', Φ v hp' → XR c cs ops rest k ((d, v) :: E) hp') : XR c cs ops ((i, ⟨some d, op, ty, pos, af, g⟩) :: rest) k E hp := by
  unfold XR at *
  intro a w ho hi hh
  simp only [rgp, wantedE_spec hw ho.1, if_true, hc, stepC]
  exact h1 _ a w ho.1 hh _ (fun v w' hi' hΦ => h v w'.heap hΦ (a.put (some d) v) w' ⟨ho.1.put (d := some d) v hf, (put_defers _ _ _).trans ho.2⟩ (hi.trans hi') rfl) _

theorem SQ_D (D : List Deferred) : ∀ (k : List SItem), SQ { c with D := D } k = SQ c k
  | [] => rfl
  | .code x :: k => by
    funext e a w
    have ih := SQ_D D k
    cases e <;> simp only [SQ, ih]
  | .blk id :: k => by
    funext e a w
    have ih := SQ_D D k
    cases e <;> simp only [SQ, ih]
  | .inv J :: k => by
    funext e a w
    have ih := SQ_D D k
    cases e <;> simp only [SQ, ih]
/-- The record of a loop that ranges over a function. -/
def loopR (fn : FuncId) (tmps : Array Value) (ps : Array Tmp) (assign body : Code) (dd : Nat) (s : LoopState) (j : Option Code) : Obj :=
  .loop { state := s, pending := j, fn, tmps, params := ps, assign, body, defers := dd }
theorem St.loop {B : Nat} {h0 hp : Heap} {rs : List Res} (s : St B h0 hp rs) (j : Nat) {p : Nat} {fn : FuncId} {tmps : Array Value} {ps : Array Tmp} {assign body : Code} {dd : Nat} {s0 : LoopState} {j0 : Option Code} (s' : LoopState) (j' : Option Code) (hj : rs[j]? = some (obj p (loopR fn tmps ps assign body dd s0 j0))) :
    St B h0 (putH hp p (loopR fn tmps ps assign body dd s' j')) (rs.set j (obj p (loopR fn tmps ps assign body dd s' j'))) := s.put j _ hj
@[reducible] def mark (d : Nat) : Deferred := { target := .collected d, args := #[] }
/-- The statement: the iterator is called; then what is behind goes on, or what a round left is done. -/
theorem X_range {g : Operand} {ps : Array Tmp} {assign body : Code} {gf : Nat} {lb : List Value} (hr : c.r = none) (hg : ev E g = some (.func (.func gf) #[] lb.toArray)) (hc : callOk c.P gf = true)
    (h : ∀ fn tmps, OK c.fn.ntmps E ⟨tmps, []⟩ → Ret c.P gf (.func (.yield (hp.size + 1)) #[] #[] :: lb) ((hp.push (.deferred (some []))).push (loopR fn tmps ps assign body hp.size .ready none))
      (fun _ hp2 => (hp2[hp.size + 1]? = some (loopR fn tmps ps assign body hp.size .ready none) ∧ X { c with D := mark hp.size :: c.D } k E (putH hp2 (hp.size + 1) (loopR fn tmps ps assign body hp.size .exhausted none))) ∨
        ∃ j, hp2[hp.size + 1]? = some (loopR fn tmps ps assign body hp.size .done (some j)) ∧ X { c with D := mark hp.size :: c.D } (.code j :: k) E (putH hp2 (hp.size + 1) (loopR fn tmps ps assign body hp.size .exhausted (some j))))) :
    X c (.code (.rangeFunc g ps assign body) :: k) E hp := by
  unfold X at *
  intro a w ho hi hw
  show (Code.rangeFunc g ps assign body).wpIn (wdF c.r) 0 c.P (SQ c k) a w
  rw [hr]
  refine wpIn_rangeFunc ?_
  intro fn hfn
  unfold callOk at hc
  split at hc
  · rename_i f0 hf0
    simp only [Bool.and_eq_true, Bool.not_eq_true'] at hc
    obtain ⟨hn, hb⟩ := hc
    have hn' : ¬ (f0.name = "runtime.NumGoroutine") := by simpa using hn
    have hb' : ¬ (f0.body = none) := by intro h; rw [h] at hb; cases hb
    subst hw
    obtain ⟨W1, hW1⟩ : ∃ W1, (w.alloc (.deferred (some []))).alloc (loopR fn a.tmps ps assign body w.heap.size .ready none) = W1 := ⟨_, rfl⟩
    have hH1 : W1.heap = (w.heap.push (.deferred (some []))).push (loopR fn a.tmps ps assign body w.heap.size .ready none) := by rw [← hW1]; rfl
    have hI1 : Inv c.w0 W1 := by rw [← hW1]; exact ⟨hi.os, hi.tape, hi.output⟩
    refine ⟨w.heap.size + 1, [mark w.heap.size], W1, { target := .fn (.func gf) lb.toArray, args := #[.func (.yield (w.heap.size + 1)) #[] #[]] }, W1, gf, (.func (.yield (w.heap.size + 1)) #[] #[] :: lb).toArray, W1, ?_, ?_, fun _ _ => trivial, ?_, ?_, ?_⟩
    · rw [← hW1]; exact run_enterLoop_outer _ _ _ _ _
    · have hge := ho.1.eval hg
      have hc0 : ∀ v, a.eval (.const v) = v := fun _ => rfl
      simp [resolve, hge, hc0, Deferred.ofValue]
    · have e : #[Value.func (.yield (w.heap.size + 1)) #[] #[]] ++ lb.toArray = (Value.func (.yield (w.heap.size + 1)) #[] #[] :: lb).toArray := by apply Array.toList_inj.1; simp
      simp [invoke, callFunc, hf0, hn', hb', e]
    · intro hh; simp [wdF, Fence.wide] at hh
    · refine (callsIn_wide (n := 0 - 1)).2 ((h fn a.tmps ⟨ho.1.size, ho.1.get⟩ W1 hH1).mono ?_)
      rintro e W2 ⟨v, rfl, hI2, hΦ⟩
      have hI := hI1.trans hI2
      rcases hΦ with ⟨hl, hX⟩ | ⟨j, hl, hX⟩
      · refine ⟨none, W2.putObj (w.heap.size + 1) (loopR fn a.tmps ps assign body w.heap.size .exhausted none), run_endLoop hl (by simp), ?_⟩
        have := hX { a with defers := [mark w.heap.size] ++ a.defers } (W2.putObj (w.heap.size + 1) (loopR fn a.tmps ps assign body w.heap.size .exhausted none)) ⟨⟨ho.1.size, ho.1.get⟩, by simp [ho.2]⟩ ⟨hI.os, hI.tape, hI.output⟩ rfl
        rw [SQ_D] at this
        exact this
      · refine ⟨some j, W2.putObj (w.heap.size + 1) (loopR fn a.tmps ps assign body w.heap.size .exhausted (some j)), run_endLoop hl (by simp), ?_⟩
        have := hX { a with defers := [mark w.heap.size] ++ a.defers } (W2.putObj (w.heap.size + 1) (loopR fn a.tmps ps assign body w.heap.size .exhausted (some j))) ⟨⟨ho.1.size, ho.1.get⟩, by simp [ho.2]⟩ ⟨hI.os, hI.tape, hI.output⟩ rfl
        rw [SQ_D] at this
        have e : (SQ c (.code j :: k) .normal) = j.wpIn (wdF c.r) 0 c.P (SQ c k) := rfl
        rw [e, hr] at this
        exact this
  · cases hc

/-- The statement, over resources. -/
theorem X_rangeS {B : Nat} {h0 : Heap} {rs : List Res} {g : Operand} {ps : Array Tmp} {assign body : Code} {gf : Nat} {lb : List Value} (st : St B h0 hp rs) (hr : c.r = none) (hg : ev E g = some (.func (.func gf) #[] lb.toArray)) (hc : callOk c.P gf = true)
    (h : ∀ fn tmps (L : LoopState → Option Code → Obj) y d hp1, L = loopR fn tmps ps assign body d → OK c.fn.ntmps E ⟨tmps, []⟩ → Ext hp hp1 → St B h0 hp1 (obj y (L .ready none) :: obj d (.deferred (some [])) :: rs) →
      Ret c.P gf (.func (.yield y) #[] #[] :: lb) hp1 (fun _ hp2 =>
        (∃ rs', St B h0 hp2 (obj y (L .ready none) :: rs') ∧ ∀ hp3, St B h0 hp3 (obj y (L .exhausted none) :: rs') → X { c with D := mark d :: c.D } k E hp3) ∨
        ∃ j rs', St B h0 hp2 (obj y (L .done (some j)) :: rs') ∧ ∀ hp3, St B h0 hp3 (obj y (L .exhausted (some j)) :: rs') → X { c with D := mark d :: c.D } (.code j :: k) E hp3)) :
    X c (.code (.rangeFunc g ps assign body) :: k) E hp := by
  refine X_range hr hg hc fun fn tmps hok => ?_
  have n1 := new_obj (.deferred (some [])) hp
  have n2 := new_obj (loopR fn tmps ps assign body hp.size .ready none) (hp.push (.deferred (some [])))
  rw [Array.size_push] at n2
  refine Ret.mono (h fn tmps _ (hp.size + 1) hp.size _ rfl hok (n1.1.trans n2.1) ((st.new n1).new n2)) ?_
  rintro v hp2 (⟨rs', st2, hX⟩ | ⟨j, rs', st2, hX⟩)
  · exact .inl ⟨st2.obj_at 0 rfl, hX _ (st2.put 0 _ rfl)⟩
  · exact .inr ⟨j, st2.obj_at 0 rfl, hX _ (st2.put 0 _ rfl)⟩

/-! A round. -/
/-- The walk of a round of the loop l. -/
@[reducible] def Cx.rnd (P : Program) (fn : Func) (l : Nat) (Φ : Value → Heap → Prop) (w0 : World) : Cx :=
  ⟨P, fn, Φ, w0, some l, [], roundPost P l fun e w' => ∃ v, e = .returned v ∧ Inv w0 w' ∧ Φ v w'.heap, true⟩
/-- Behind the assignment of the loop's variables the round begins. -/
def BegJ (c : Cx) (l : Nat) (body : Code) (a : Act) (w : World) : Prop := ∃ w₂, (Instr.beginRound l).run c.P w = .ok () w₂ ∧ body.wpIn (wdF (some l)) 0 c.P c.B a w₂
theorem X_begin {P : Program} {fn : Func} {l : Nat} {f : FuncId} {tmps : Array Value} {ps : Array Tmp} {assign body : Code} {dd : Nat} {Φ : Value → Heap → Prop} {w0 : World} (hl : hp[l]? = some (loopR f tmps ps assign body dd .ready none))
    (h : X (Cx.rnd P fn l Φ w0) [.code body] E (putH hp l (loopR f tmps ps assign body dd .busy none))) : X { Cx.rnd P fn l Φ w0 with B := NoQ } [.inv (BegJ (Cx.rnd P fn l Φ w0) l body)] E hp := by
  unfold X at *
  intro a w ho hi hw
  subst hw
  refine ⟨w.putObj l (loopR f tmps ps assign body dd .busy none), run_beginRound hl rfl, ?_⟩
  have := h a (w.putObj l (loopR f tmps ps assign body dd .busy none)) ho ⟨hi.os, hi.tape, hi.output⟩ rfl
  have e : SQ (Cx.rnd P fn l Φ w0) [.code body] .normal = body.wpIn (wdF (some l)) 0 P (SQ (Cx.rnd P fn l Φ w0) []) := rfl
  rw [e] at this
  exact wpIn_mono this (fun e a w he => he)
def penv : List Tmp → List Value → Env → Env
  | p :: ps, v :: vs, E => penv ps vs ((p, v) :: E)
  | _, _, E => E
theorem OK.params {n : Nat} : ∀ {ps : List Tmp} {vs : List Value} {E : Env} {tmps : Array Value}, ps.all (Nat.blt · n) = true → OK n E ⟨tmps, []⟩ → OK n (penv ps vs E) ⟨(ps.zip vs).foldl (fun t (p, v) => t.setIfInBounds p v) tmps, []⟩
  | [], _, _, _, _, h => by simpa [penv] using h
  | _ :: _, [], _, _, _, h => by simpa [penv] using h
  | p :: ps, v :: vs, E, tmps, hn, h => by
    simp only [List.all_cons, Bool.and_eq_true] at hn
    have := h.put (d := some p) v hn.1
    exact OK.params (ps := ps) (vs := vs) hn.2 (this : OK n ((p, v) :: E) ⟨tmps.setIfInBounds p v, []⟩)
theorem rret_of_X {P : Program} {fn : Func} {l : Nat} {f : FuncId} {tmps : Array Value} {ps : List Tmp} {assign body : Code} {dd : Nat} {args : List Value} {E : Env} {hp : Heap} {Φ : Value → Heap → Prop}
    (hl : hp[l]? = some (loopR f tmps ps.toArray assign body dd .ready none)) (hE : OK fn.ntmps E ⟨tmps, []⟩) (hn : ps.length = args.length) (hps : ps.all (Nat.blt · fn.ntmps) = true)
    (h : ∀ w0 : World, w0.heap = hp → X { Cx.rnd P fn l Φ w0 with B := NoQ } [.code assign, .inv (BegJ (Cx.rnd P fn l Φ w0) l body)] (penv ps args E) hp) : RRet P l args hp Φ := by
  intro w hw
  refine ⟨f, (ps.toArray.zip args.toArray).foldl (fun t (p, v) => t.setIfInBounds p v) tmps, assign, body, ?_, ?_⟩
  · have := run_yield (P := P) (w := w) (args := args.toArray) (r := { state := .ready, pending := none, fn := f, tmps, params := ps.toArray, assign, body, defers := dd }) (by rw [hw]; exact hl) (by simp [hn])
    exact this
  · have e : (ps.toArray.zip args.toArray).foldl (fun t (p, v) => t.setIfInBounds p v) tmps = (ps.zip args).foldl (fun t (p, v) => t.setIfInBounds p v) tmps := by
      rw [← Array.foldl_toList]; simp
    rw [e]
    have hx := h w hw
    unfold X at hx
    have h1 := hx ⟨(ps.zip args).foldl (fun t (p, v) => t.setIfInBounds p v) tmps, []⟩ w ⟨OK.params hps hE, rfl⟩ (Inv.refl w) hw
    refine roundIn_of_wpIn (F := Fence.wide) (n := 0) trivial ?_
    refine wpIn_mono (Q := SQ { Cx.rnd P fn l Φ w with B := NoQ } [.inv (BegJ (Cx.rnd P fn l Φ w) l body)]) h1 ?_
    intro e a w1 he
    cases e with
    | normal => exact he
    | exit _ => exact he.elim
    | goto _ => exact he.elim
    | ret => exact he.elim
    | panic _ => exact he.elim
    | outgrown => exact he.elim
/-- A round's end. -/
theorem X_rnd {P : Program} {fn : Func} {l : Nat} {f : FuncId} {tmps : Array Value} {ps : Array Tmp} {assign body : Code} {dd : Nat} {E : Env} {hp : Heap} {Φ : Value → Heap → Prop} {w0 : World}
    (hl : hp[l]? = some (loopR f tmps ps assign body dd .busy none)) (hΦ : Φ (.bool true) (putH hp l (loopR f tmps ps assign body dd .ready none))) : X (Cx.rnd P fn l Φ w0) [] E hp := by
  unfold X
  intro a w ho hi hw
  subst hw
  exact ⟨.bool true, w.putObj l (loopR f tmps ps assign body dd .ready none), run_endRound none hl, .bool true, rfl, ⟨hi.os, hi.tape, hi.output⟩, hΦ⟩
/-- A round that returns. -/
theorem X_rnd_ret {P : Program} {fn : Func} {l : Nat} {f : FuncId} {tmps : Array Value} {ps : Array Tmp} {assign body : Code} {dd : Nat} {E : Env} {hp : Heap} {Φ : Value → Heap → Prop} {w0 : World} {k : List SItem}
    (hl : hp[l]? = some (loopR f tmps ps assign body dd .busy none)) (hΦ : Φ (.bool false) (putH hp l (loopR f tmps ps assign body dd .done (some .ret)))) : X (Cx.rnd P fn l Φ w0) (.code .ret :: k) E hp := by
  unfold X
  intro a w ho hi hw
  subst hw
  refine wpIn_ret (SQ_ret ?_ k)
  exact ⟨.bool false, w.putObj l (loopR f tmps ps assign body dd .done (some .ret)), run_endRound (some .ret) hl, .bool false, rfl, ⟨hi.os, hi.tape, hi.output⟩, hΦ⟩
/-- A round that leaves the loop. -/
theorem SQ_out {id : Nat} : ∀ {k : List SItem}, exitK id k = none → ∀ a w, c.B (.exit id) a w → SQ c k (.exit id) a w
  | [], _, a, w, h => h
  | .code _ :: k, he, a, w, h => SQ_out (k := k) he a w h
  | .inv _ :: k, he, a, w, h => SQ_out (k := k) he a w h
  | .blk j :: k, he, a, w, h => by
    simp only [exitK] at he
    show (if id = j then SQ c k .normal a w else SQ c k (.exit id) a w)
    cases hb : Nat.beq id j with
    | true => rw [hb] at he; cases he
    | false => rw [hb] at he; rw [if_neg (Nat.ne_of_beq_eq_false hb)]; exact SQ_out he a w h
theorem X_rnd_exit {P : Program} {fn : Func} {l : Nat} {f : FuncId} {tmps : Array Value} {ps : Array Tmp} {assign body : Code} {dd id : Nat} {E : Env} {hp : Heap} {Φ : Value → Heap → Prop} {w0 : World} {k : List SItem} (hk : exitK id k = none)
    (hl : hp[l]? = some (loopR f tmps ps assign body dd .busy none)) (hΦ : Φ (.bool false) (putH hp l (loopR f tmps ps assign body dd .done (some (.exit id))))) : X (Cx.rnd P fn l Φ w0) (.code (.exit id) :: k) E hp := by
  unfold X
  intro a w ho hi hw
  subst hw
  refine wpIn_exit (SQ_out hk _ _ ?_)
  exact ⟨.bool false, w.putObj l (loopR f tmps ps assign body dd .done (some (.exit id))), run_endRound (some (.exit id)) hl, .bool false, rfl, ⟨hi.os, hi.tape, hi.output⟩, hΦ⟩
end
theorem St.reF {B : Nat} {h0 hp : Heap} (rs : List Res) (n : Nat) {F : List Res} (s : St B h0 hp (rs ++ F)) (idx : List Nat) (h : idx.Perm (List.range n)) (hn : rs.length = n := by rfl) : St B h0 hp (idx.map (getR rs) ++ F) := by
  subst hn
  have e := getR_range rs
  have hp := h.map (getR rs)
  rw [e] at hp
  exact s.perm (hp.symm.append_right F)
end Go.Bn

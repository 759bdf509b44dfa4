/- A deferred closure that recovers; the function that defers it. -/
import Derived.Test.YtpkhilbgkkjebaaPan
set_option linter.unusedVariables false
set_option linter.unusedSimpArgs false
namespace Go.Bn
open Go

/-- What recover tells a deferred call, and the mode that it leaves. -/
def recV : FrameMode → Value × FrameMode
  | .panicking ({ v, recovered := false, goexit := false } :: older) => (v, .panicking ({ v, recovered := true } :: older))
  | u => (.nilIface, u)
theorem recoverD_recV (c₀ : Frame) (cs : List Frame) : (recoverD (c₀ :: cs) = some ((recV c₀.mode).1, { c₀ with mode := (recV c₀.mode).2 } :: cs)) ∨ (recoverD (c₀ :: cs) = none ∧ recV c₀.mode = (.nilIface, c₀.mode)) := by
  unfold recoverD recV
  simp only
  split
  · rename_i h; rw [h]; exact .inl rfl
  · rename_i h
    split
    · rename_i h2; exact absurd h2 (h _ _)
    · exact .inr ⟨rfl, rfl⟩

def RR (w : World) (Φ : FrameMode → Heap → Prop) (e : Ending) (u' : FrameMode) (w' : World) : Prop := ∃ v, e = .returned v ∧ Inv w w' ∧ Φ u' w'.heap
/-- A deferred call of f, in this mode of the frame that leaves. -/
def RetD (P : Program) (f : FuncId) (args : List Value) (u : FrameMode) (hp : Heap) (Φ : FrameMode → Heap → Prop) : Prop :=
  ∀ w : World, w.heap = hp → CallsDIn Fence.wide 0 P f args.toArray u w (RR w Φ)
def BD (P : Program) (fn : Func) (Φ : FrameMode → Heap → Prop) (u1 : FrameMode) (w0 : World) : Exit → Act → World → Prop
  | .normal, a, w | .ret, a, w => a.defers = [] ∧ ∃ v, (results fn a.tmps).run P w = .ok v w ∧ Inv w0 w ∧ Φ u1 w.heap
  | _, _, _ => False
@[reducible] def Cx.ofD (P : Program) (fn : Func) (Φ : FrameMode → Heap → Prop) (u1 : FrameMode) (w0 : World) : Cx :=
  ⟨P, fn, fun _ => Φ u1, w0, none, [], BD P fn Φ u1 w0, true⟩
section
variable {c : Cx} {k : List SItem} {E : Env} {hp : Heap}
attribute [local semireducible] X in
theorem X_endD {P : Program} {fn : Func} {Φ : FrameMode → Heap → Prop} {u1 : FrameMode} {w0 : World} {vs : List Value} (h : RVs P hp E fn.results.toList vs) (hΦ : Φ u1 hp) : X (Cx.ofD P fn Φ u1 w0) [] E hp := fun a w ho hi hw =>
  ⟨ho.2, retVal vs, results_run ho.1 hw h, hi, by rw [hw]; exact hΦ⟩
end
attribute [local semireducible] X in
/-- The walk of a deferred closure whose first region is a recover. -/
theorem retD_of_X {P : Program} {f : FuncId} {fn : Func} {y : Code} {args : List Value} {u : FrameMode} {hp : Heap} {Φ : FrameMode → Heap → Prop} {id : Nat} {d0 d1 : Tmp} {ts : Array TypeId} {ty0 ty1 : TypeId} {p0 p1 : String} {a0 a1 : Array Edge}
    (hf : P.funcs[f]? = some fn) (hb : fn.body = some (.seq (.region id #[⟨some d0, .call ⟨.builtin .recover, #[], ts⟩, ty0, p0, a0, none⟩, ⟨some d1, .assign (.tmp d0), ty1, p1, a1, none⟩] false) y))
    (hn : Nat.ble args.length fn.ntmps = true) (h0 : Nat.blt d0 fn.ntmps = true) (h1 : Nat.blt d1 fn.ntmps = true)
    (h : ∀ w0 : World, w0.heap = hp → X (Cx.ofD P fn Φ (recV u).2 w0) [.code y] ((d1, (recV u).1) :: (d0, (recV u).1) :: argE 0 args) hp) : RetD P f args u hp Φ := by
  intro w hw
  refine callsDIn_of_wpSIn hf hb trivial ?_
  intro c₀ cs hc
  refine wpSIn_seq (wpSIn_region ?_)
  have hn' : args.length ≤ fn.ntmps := Nat.le_of_ble_eq_true hn
  obtain ⟨a, ha⟩ : ∃ a : Act, ({ tmps := args.toArray ++ Array.replicate (fn.ntmps - args.toArray.size) undef, defers := [] } : Act) = a := ⟨_, rfl⟩
  have hok : OK fn.ntmps (argE 0 args) a := by
    rw [← ha]
    refine ⟨by simp; omega, fun i v hv => ?_⟩
    obtain ⟨_, h2⟩ := argE_get 0 args i v hv
    have hlt : i < args.length := (List.getElem?_eq_some_iff.1 (by simpa using h2)).1
    rw [Array.getElem?_append_left (by simpa using hlt)]
    simpa using h2
  have had : a.defers = [] := by rw [← ha]
  rw [ha]
  have hk1 := hok.put (d := some d0) (recV u).1 h0
  have hk2 := hk1.put (d := some d1) (recV u).1 h1
  have hev : (a.put (some d0) (recV u).1).eval (.tmp d0) = (recV u).1 := hk1.eval (E := (d0, (recV u).1) :: argE 0 args) (x := .tmp d0) (by simp [ev, Env.get])
  have key : ∀ cs', cs' = { c₀ with mode := (recV u).2 } :: cs → wpOpsSIn Fence.wide 0 P #[⟨some d0, .call ⟨.builtin .recover, #[], ts⟩, ty0, p0, a0, none⟩, ⟨some d1, .assign (.tmp d0), ty1, p1, a1, none⟩]
      (Exit.thenS (y.wpSIn Fence.wide 0 P (bodyPostS P fn c₀ cs (RR w Φ))) (bodyPostS P fn c₀ cs (RR w Φ))) [1] (a.put (some d0) (recV u).1) cs' w := by
    rintro cs' rfl
    have hx := h w hw ((a.put (some d0) (recV u).1).put (some d1) (recV u).1) w ⟨hk2, (put_defers _ _ _).trans ((put_defers _ _ _).trans had)⟩ (Inv.refl w) hw
    have hx2 : y.wpSIn Fence.wide 0 P (bodyPostS P fn c₀ cs (RR w Φ)) ((a.put (some d0) (recV u).1).put (some d1) (recV u).1) ({ c₀ with mode := (recV u).2 } :: cs) w := by
      refine wpSIn_of_wpIn rfl (wpIn_mono hx ?_)
      intro e a' w' he
      cases e with
      | normal => obtain ⟨hd, v, hr, hi, hΦ⟩ := he; exact ⟨hd, _, rfl, v, hr, v, rfl, hi, hΦ⟩
      | ret => obtain ⟨hd, v, hr, hi, hΦ⟩ := he; exact ⟨hd, _, rfl, v, hr, v, rfl, hi, hΦ⟩
      | _ => exact he.elim
    have hassign : (execOp (a.put (some d0) (recV u).1).eval ⟨some d1, .assign (.tmp d0), ty1, p1, a1, none⟩).run P w = .ok (.value (recV u).1) w := by simp only [execOp, hev]; simp [go_sem]
    simp only [wpOpsSIn]
    simp [Region.wanted, hassign, Exit.thenS, Oper.about]
    exact hx2
  have hrun : (execOp a.eval ⟨some d0, .call ⟨.builtin .recover, #[], ts⟩, ty0, p0, a0, none⟩).run P w = .ok .recover w := by simp [execOp, resolve, go_sem]
  rw [show List.range (#[(⟨some d0, .call ⟨.builtin .recover, #[], ts⟩, ty0, p0, a0, none⟩ : Oper), ⟨some d1, .assign (.tmp d0), ty1, p1, a1, none⟩] : Array Oper).size = [0, 1] from rfl]
  rw [wpOpsSIn]
  subst hc
  refine ⟨fun _ _ => trivial, ?_⟩
  simp only [List.getElem_toArray, List.getElem_cons_zero]
  rw [if_pos (by simp [Region.wanted]), hrun]
  rcases recoverD_recV c₀ cs with hr | ⟨hr, hm⟩
  · simp only [hr]
    exact key _ rfl
  · simp only [hr]
    have := key (c₀ :: cs) (by rw [hm])
    rw [hm] at this
    exact this

/-! The function that defers it. -/
@[reducible] def dfr (g : FuncId) (lb : Array Value) : Deferred := { target := .fn (.func g) lb, args := #[] }
section
variable {c : Cx} {k : List SItem} {E : Env} {hp : Heap} {ops : Array Oper} {cs : CF}
theorem PQ_D (D : List Deferred) : PQ { c with D := D } k = PQ c k := by
  funext e a w
  cases e <;> simp only [PQ, SQ_D]
attribute [local semireducible] X XR in
theorem XR_defer {i : Nat} {x : Operand} {ts : Array TypeId} {ty : TypeId} {pos : String} {af : Array Edge} {g : Option (Nat × Bool)} {rest : List (Nat × Oper)} {f : FuncId} {lb : Array Value} (hx : ev E x = some (.func (.func f) #[] lb))
    (hc : cs i ⟨none, .defer ⟨.value x, #[], ts⟩, ty, pos, af, g⟩ = .wild) (hw : wantedE ops E ⟨none, .defer ⟨.value x, #[], ts⟩, ty, pos, af, g⟩ = some true)
    (h : XR { c with D := dfr f lb :: c.D } cs ops rest k E hp) : XR c cs ops ((i, ⟨none, .defer ⟨.value x, #[], ts⟩, ty, pos, af, g⟩) :: rest) k E hp := by
  intro a w ho hi hh
  simp only [rgp, wantedE_spec hw ho.1, if_true, hc, stepC]
  refine wq_of_wpS ?_
  have hrun : (execOp a.eval ⟨none, .defer ⟨.value x, #[], ts⟩, ty, pos, af, g⟩).run c.P w = .ok (.defer (dfr f lb)) w := by
    have hge := ho.1.eval hx
    simp only [execOp, resolve, hge]
    simp [Deferred.ofValue, go_sem]
  simp only [Oper.wp, hrun, Oper.upon]
  have := h { a with defers := dfr f lb :: a.defers } w ⟨⟨ho.1.size, ho.1.get⟩, by rw [ho.2]⟩ hi hh
  rw [PQ_D, SQ_D] at this
  exact this
theorem post_defer {E0 : Env} {f : FuncId} {lb : Array Value} {u : FrameMode} {a : Act} {w : World} (hc : callOk c.P f = true) (hu : u ≠ .run) (ho : OK c.fn.ntmps E0 a) (hi : Inv c.w0 w)
    (h : RetD c.P f lb.toList u w.heap fun u' hp' => settle u' = .returning ∧ ∃ vs, RVs c.P hp' E0 c.fn.results.toList vs ∧ c.Φ (retVal vs) hp') :
    LeavesInM Fence.wide 0 c.P c.fn a.tmps c.R [dfr f lb] u w := by
  unfold callOk at hc
  split at hc
  · rename_i f0 hf0
    simp only [Bool.and_eq_true, Bool.not_eq_true'] at hc
    obtain ⟨hn, hb⟩ := hc
    have hn' : ¬ (f0.name = "runtime.NumGoroutine") := by simpa using hn
    have hb' : ¬ (f0.body = none) := by intro h; rw [h] at hb; cases hb
    refine ⟨hu, .inr ⟨(fun hh => by cases hh), .func f, lb, f, lb, rfl, ?_, fun _ _ => trivial, ?_⟩⟩
    · simp [invoke, callFunc, hf0, hn', hb', go_sem]
    · refine CallsDIn.mono (h w rfl) ?_
      rintro e u' w' ⟨v, rfl, hI, hs, vs, hr, hΦ⟩
      show LeavesInM Fence.wide 0 c.P c.fn a.tmps c.R [] (settle u') w'
      rw [hs]
      exact ⟨retVal vs, results_run ho rfl hr, retVal vs, rfl, hi.trans hI, hΦ⟩
  · cases hc
attribute [local semireducible] X in
theorem X_retD {f : FuncId} {lb : Array Value} (E0 : Env) (hs : Sub E0 E) (hc : callOk c.P f = true)
    (h : RetD c.P f lb.toList .returning hp fun u' hp' => settle u' = .returning ∧ ∃ vs, RVs c.P hp' E0 c.fn.results.toList vs ∧ c.Φ (retVal vs) hp')
    (hB : c.B = bodyPostM Fence.wide 0 c.P c.fn c.R := by rfl) (hD : c.D = [dfr f lb] := by rfl) : X c (.code .ret :: k) E hp := fun a w ho hi hw => by
  refine wpIn_ret (SQ_ret ?_ k)
  rw [hB]
  show LeavesInM Fence.wide 0 c.P c.fn a.tmps c.R a.defers .returning w
  rw [ho.2, hD]
  exact post_defer hc (by simp) (ho.1.sub hs) hi (by rw [hw]; exact h)
theorem XP_D {f : FuncId} {lb : Array Value} {ch : List PanicEntry} (E0 : Env) (hc : callOk c.P f = true)
    (h : RetD c.P f lb.toList (.panicking ch) hp fun u' hp' => settle u' = .returning ∧ ∃ vs, RVs c.P hp' E0 c.fn.results.toList vs ∧ c.Φ (retVal vs) hp')
    (hB : c.B = bodyPostM Fence.wide 0 c.P c.fn c.R := by rfl) (hD : c.D = [dfr f lb] := by rfl) : XP c k ch E0 hp := by
  intro a w ho hi hw
  refine SQ_panic ?_ k
  rw [hB]
  show LeavesInM Fence.wide 0 c.P c.fn a.tmps c.R a.defers (.panicking ch) w
  rw [ho.2, hD]
  exact post_defer hc (by simp) ho.1 hi (by rw [hw]; exact h)
end
/-- The walk of a function that defers a closure and may panic inside. -/
@[reducible] def Cx.ofT (P : Program) (fn : Func) (Φ : Value → Heap → Prop) (w0 : World) : Cx :=
  ⟨P, fn, Φ, w0, none, [], bodyPostM Fence.wide 0 P fn fun e w' => ∃ v, e = .returned v ∧ Inv w0 w' ∧ Φ v w'.heap, false⟩
attribute [local semireducible] X in
theorem retT_of_X {P : Program} {f : FuncId} {fn : Func} {code : Code} {args : List Value} {hp : Heap} {Φ : Value → Heap → Prop} (hf : P.funcs[f]? = some fn) (hb : fn.body = some code)
    (hn : Nat.ble args.length fn.ntmps = true) (h : ∀ w0 : World, w0.heap = hp → X (Cx.ofT P fn Φ w0) [.code code] (argE 0 args) hp) : Ret P f args hp Φ := by
  intro w hw
  refine callsIn_wide (n := 0).1 (callsIn_of_wp_marks hf hb trivial ?_)
  have hn' : args.length ≤ fn.ntmps := Nat.le_of_ble_eq_true hn
  have hx := h w hw { tmps := args.toArray ++ Array.replicate (fn.ntmps - args.toArray.size) undef, defers := [] } w ⟨⟨by simp; omega, fun i v hv => ?_⟩, rfl⟩ (Inv.refl w) hw
  · exact wpIn_mono hx (fun e a w he => by cases e <;> exact he)
  · obtain ⟨_, h2⟩ := argE_get 0 args i v hv
    have hlt : i < args.length := (List.getElem?_eq_some_iff.1 (by simpa using h2)).1
    rw [Array.getElem?_append_left (by simpa using hlt)]
    simpa using h2
end Go.Bn

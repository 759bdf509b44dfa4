/- Functions that may end by a panic; calls of them; a deferred closure. -/
import Derived.Test.YtpkhilbgkkjebaaAlt
import Derived.Test.YtpkhilbgkkjebaaRng
import Derived.RecoverIn
set_option linter.unusedVariables false
set_option linter.unusedSimpArgs false
namespace Go.Bn
open Go

def RP (w0 : World) (Φ : Value → Heap → Prop) (Ψ : List PanicEntry → Heap → Prop) (e : Ending) (w' : World) : Prop :=
  (∃ v, e = .returned v ∧ Inv w0 w' ∧ Φ v w'.heap) ∨ ∃ ch, e = .panicked ch ∧ Inv w0 w' ∧ Ψ ch w'.heap
/-- A call of f in a world of this heap returns (Φ), or ends by a panic (Ψ). -/
def RetP (P : Program) (f : FuncId) (args : List Value) (hp : Heap) (Φ : Value → Heap → Prop) (Ψ : List PanicEntry → Heap → Prop) : Prop :=
  ∀ w : World, w.heap = hp → Calls P f args.toArray w (RP w Φ Ψ)
theorem Ret.toP {P : Program} {f : FuncId} {args : List Value} {hp : Heap} {Φ : Value → Heap → Prop} {Ψ : List PanicEntry → Heap → Prop} (h : Ret P f args hp Φ) : RetP P f args hp Φ Ψ :=
  fun w hw => (h w hw).mono fun _ _ h => .inl h
theorem RetP.mono {P : Program} {f : FuncId} {args : List Value} {hp : Heap} {Φ Φ' : Value → Heap → Prop} {Ψ Ψ' : List PanicEntry → Heap → Prop} (h : RetP P f args hp Φ Ψ) (h1 : ∀ v hp', Φ v hp' → Φ' v hp') (h2 : ∀ ch hp', Ψ ch hp' → Ψ' ch hp') : RetP P f args hp Φ' Ψ' :=
  fun w hw => (h w hw).mono fun _ _ h => by
    rcases h with ⟨v, he, hi, hΦ⟩ | ⟨ch, he, hi, hΨ⟩
    · exact .inl ⟨v, he, hi, h1 _ _ hΦ⟩
    · exact .inr ⟨ch, he, hi, h2 _ _ hΨ⟩
/-- Where no panic may be, it returns. -/
theorem RetP.toRet {P : Program} {f : FuncId} {args : List Value} {hp : Heap} {Φ : Value → Heap → Prop} (h : RetP P f args hp Φ fun _ _ => False) : Ret P f args hp Φ :=
  fun w hw => (h w hw).mono fun _ _ h => by
    rcases h with h | ⟨_, _, _, h⟩
    · exact h
    · exact h.elim

@[reducible] def Cx.ofP (P : Program) (fn : Func) (Φ : Value → Heap → Prop) (Ψ : List PanicEntry → Heap → Prop) (w0 : World) : Cx :=
  ⟨P, fn, Φ, w0, none, [], bodyPostM Fence.wide 0 P fn (RP w0 Φ Ψ), true⟩

section
variable {c : Cx} {k : List SItem} {E : Env} {hp : Heap}
theorem SQ_panic {ch : List PanicEntry} {a : Act} {w : World} (h : c.B (.panic ch) a w) : ∀ k, SQ c k (.panic ch) a w
  | [] => h
  | .code _ :: k => SQ_panic h k
  | .blk _ :: k => SQ_panic h k
  | .inv _ :: k => SQ_panic h k
theorem post_plainP {Ψ : List PanicEntry → Heap → Prop} {vs : List Value} {a : Act} {w : World} {D : List Deferred} (hD : D = []) (h : RVs c.P hp E c.fn.results.toList vs) (hΦ : c.Φ (retVal vs) hp) (ho : OK c.fn.ntmps E a) (hi : Inv c.w0 w) (hw : w.heap = hp) :
    LeavesInM Fence.wide 0 c.P c.fn a.tmps (RP c.w0 c.Φ Ψ) D .returning w := by
  subst hD
  exact ⟨retVal vs, results_run ho hw h, .inl ⟨retVal vs, rfl, hi, by rw [hw]; exact hΦ⟩⟩
attribute [local semireducible] X in
theorem X_retP {Ψ : List PanicEntry → Heap → Prop} {vs : List Value} (h : RVs c.P hp E c.fn.results.toList vs) (hΦ : c.Φ (retVal vs) hp) (hB : c.B = bodyPostM Fence.wide 0 c.P c.fn (RP c.w0 c.Φ Ψ) := by rfl) (hD : c.D = [] := by rfl) : X c (.code .ret :: k) E hp := fun a w ho hi hw => by
  refine wpIn_ret (SQ_ret ?_ k)
  rw [hB]
  exact post_plainP (ho.2.trans hD) h hΦ ho.1 hi hw
attribute [local semireducible] X in
theorem X_endP {Ψ : List PanicEntry → Heap → Prop} {vs : List Value} (h : RVs c.P hp E c.fn.results.toList vs) (hΦ : c.Φ (retVal vs) hp) (hB : c.B = bodyPostM Fence.wide 0 c.P c.fn (RP c.w0 c.Φ Ψ) := by rfl) (hD : c.D = [] := by rfl) : X c [] E hp := fun a w ho hi hw => by
  show c.B .normal a w
  rw [hB]
  exact post_plainP (ho.2.trans hD) h hΦ ho.1 hi hw
/-- Where a panic leads, over a heap. -/
def XP (c : Cx) (k : List SItem) (ch : List PanicEntry) (E0 : Env) (hp : Heap) : Prop :=
  ∀ a w, (OK c.fn.ntmps E0 a ∧ a.defers = c.D) → Inv c.w0 w → w.heap = hp → SQ c k (.panic ch) a w
theorem XP_plain {Ψ : List PanicEntry → Heap → Prop} {ch : List PanicEntry} (h : Ψ ch hp) (hB : c.B = bodyPostM Fence.wide 0 c.P c.fn (RP c.w0 c.Φ Ψ) := by rfl) (hD : c.D = [] := by rfl) : XP c k ch [] hp := by
  intro a w ho hi hw
  refine SQ_panic ?_ k
  rw [hB]
  have hd : a.defers = [] := ho.2.trans hD
  show LeavesInM Fence.wide 0 c.P c.fn a.tmps (RP c.w0 c.Φ Ψ) a.defers (.panicking ch) w
  rw [hd]
  exact .inr ⟨ch, rfl, hi, by rw [hw]; exact h⟩
end
attribute [local semireducible] X in
theorem retP_of_X {P : Program} {f : FuncId} {fn : Func} {code : Code} {args : List Value} {hp : Heap} {Φ : Value → Heap → Prop} {Ψ : List PanicEntry → Heap → Prop} (hf : P.funcs[f]? = some fn) (hb : fn.body = some code)
    (hn : Nat.ble args.length fn.ntmps = true) (h : ∀ w0 : World, w0.heap = hp → X (Cx.ofP P fn Φ Ψ w0) [.code code] (argE 0 args) hp) : RetP P f args hp Φ Ψ := by
  intro w hw
  refine callsIn_wide (n := 0).1 (callsIn_of_wp_marks hf hb trivial ?_)
  have hn' : args.length ≤ fn.ntmps := Nat.le_of_ble_eq_true hn
  have hx := h w hw { tmps := args.toArray ++ Array.replicate (fn.ntmps - args.toArray.size) undef, defers := [] } w ⟨⟨by simp; omega, fun i v hv => ?_⟩, rfl⟩ (Inv.refl w) hw
  · exact wpIn_mono hx (fun e a w he => by cases e <;> exact he)
  · obtain ⟨_, h2⟩ := argE_get 0 args i v hv
    have hlt : i < args.length := (List.getElem?_eq_some_iff.1 (by simpa using h2)).1
    rw [Array.getElem?_append_left (by simpa using hlt)]
    simpa using h2

section
variable {cl : Cls} {P : Program} {E : Env} {hp : Heap} {d : Option Tmp} {ty : TypeId} {pos : String} {af : Array Edge} {g : Option (Nat × Bool)}
def concrete (P : Program) (t : TypeId) : Bool := match P.underlying t with
  | some (.interface _) => false
  | some _ => true
  | none => false
theorem op_eqlNil {x : Operand} {t : TypeId} {t' : TypeId} (hx : ev E x = some .nilIface) {r : Bool} (h : ∀ w, (Op.equal t .nilIface .nilIface).run P w = .ok r w) : Op1 cl P ⟨d, .binOp .eql t x (.const .nilIface) t', ty, pos, af, g⟩ E hp (.bool r) := by
  refine Op1.of_pure fun n a ho w => ?_
  have hy : a.eval (.const .nilIface) = .nilIface := rfl
  simp only [execOp, ho.eval hx, hy]
  simp [eqGuard, binOp, h, go_sem]
theorem op_eqlIf {x y : Operand} {t T : TypeId} {t' : TypeId} {v b : Value} (hx : ev E x = some (.iface T v)) (hy : ev E y = some b) {r : Bool} (h : ∀ w, (Op.equal t (.iface T v) b).run P w = .ok r w) : Op1 cl P ⟨d, .binOp .eql t x y t', ty, pos, af, g⟩ E hp (.bool r) := by
  refine Op1.of_pure fun n a ho w => ?_
  simp only [execOp, ho.eval hx, ho.eval hy]
  simp [eqGuard, binOp, h, go_sem]
theorem op_iface {x : Operand} {t : TypeId} {v : Value} (hx : ev E x = some v) (hf : concrete P t = true) : Op1 cl P ⟨d, .makeInterface t x, ty, pos, af, g⟩ E hp (.iface t v) := by
  refine Op1.of_pure fun n a ho w => ?_
  simp only [execOp, ho.eval hx]
  unfold concrete at hf
  cases hu : P.underlying t with
  | none => rw [hu] at hf; cases hf
  | some u =>
    rw [hu] at hf
    cases u <;> first
      | (cases hf; done)
      | simp [Instr.makeInterface, run_underlying hu, go_sem]
end

/-! Operations that may panic. -/
def OpLP (P : Program) (o : Oper) (E : Env) (hp : Heap) (Φ : Value → Heap → Prop) (Ψ : List PanicEntry → Heap → Prop) : Prop :=
  ∀ n a w, OK n E a → w.heap = hp → ∀ (K : Act → World → Prop) (S : Exit → Act → World → Prop), (∀ v w', Inv w w' → Φ v w'.heap → K (a.put o.dst v) w') → (∀ ch w', Inv w w' → Ψ ch w'.heap → S (.panic ch) a w') → o.wp P a w K S
section
variable {P : Program} {E : Env} {hp : Heap} {d : Option Tmp} {ty : TypeId} {pos : String} {af : Array Edge} {g : Option (Nat × Bool)}
theorem opl_callP {f : FuncId} {args : Array Operand} {ts : Array TypeId} {vs : List Value} {Φ : Value → Heap → Prop} {Ψ : List PanicEntry → Heap → Prop} (h : RetP P f vs hp Φ Ψ) (hargs : evs E args.toList = some vs) (hc : callOk P f = true) :
    OpLP P ⟨d, .call ⟨.value (.func f), args, ts⟩, ty, pos, af, g⟩ E hp Φ Ψ := by
  intro n a w ho hw K S hK hS
  unfold callOk at hc
  split at hc
  · rename_i fn hfn
    simp only [Bool.and_eq_true, Bool.not_eq_true'] at hc
    obtain ⟨hn, hb⟩ := hc
    have hn' : ¬ (fn.name = "runtime.NumGoroutine") := by simpa using hn
    have hb' : ¬ (fn.body = none) := by intro h; rw [h] at hb; cases hb
    have ha : args.map a.eval = vs.toArray := by
      apply Array.toList_inj.1
      rw [Array.toList_map, ho.evals hargs]
    have hrun : (execOp a.eval ⟨d, .call ⟨.value (.func f), args, ts⟩, ty, pos, af, g⟩).run P w = .ok (.enter f vs.toArray) w := by
      simp [execOp, resolve, Act.eval, Deferred.ofValue, invoke, callFunc, hfn, hn', hb', ha]
    simp only [Oper.wp, hrun, Oper.upon]
    refine (h w hw).mono ?_
    rintro e w' (⟨v, rfl, hi, hΦ⟩ | ⟨ch, rfl, hi, hΨ⟩)
    · exact hK v w' hi hΦ
    · exact hS ch w' hi hΨ
  · cases hc
end
section
variable {c : Cx} {k : List SItem} {E : Env} {hp : Heap} {ops : Array Oper} {cs : CF}
attribute [local semireducible] X XR in
theorem XR_wap {i : Nat} {d : Tmp} {op : Op} {ty : TypeId} {pos : String} {af : Array Edge} {g : Option (Nat × Bool)} {rest : List (Nat × Oper)} {Φ : Value → Heap → Prop} {Ψ : List PanicEntry → Heap → Prop} (E0 : Env)
    (h1 : OpLP c.P ⟨some d, op, ty, pos, af, g⟩ E hp Φ Ψ) (hc : cs i ⟨some d, op, ty, pos, af, g⟩ = .wild) (hf : Nat.blt d c.fn.ntmps = true) (hw : wantedE ops E ⟨some d, op, ty, pos, af, g⟩ = some true)
    (hs : Sub E0 E) (hd : c.pd = true → E0 = []) (hpn : ∀ ch hp', Ψ ch hp' → XP c k ch E0 hp')
    (h : ∀ v hp', Φ v hp' → XR c cs ops rest k ((d, v) :: E) hp') : XR c cs ops ((i, ⟨some d, op, ty, pos, af, g⟩) :: rest) k E hp := by
  intro a w ho hi hh
  simp only [rgp, wantedE_spec hw ho.1, if_true, hc, stepC]
  exact wq_of_wpS (h1 _ a w ho.1 hh _ _ (fun v w' hi' hΦ => h v w'.heap hΦ (a.put (some d) v) w' ⟨ho.1.put (d := some d) v hf, (put_defers _ _ _).trans ho.2⟩ (hi.trans hi') rfl)
    (fun ch w' hi' hΨ => ⟨E0, c.D, ⟨ho.1.sub hs, ho.2⟩, hd, fun a' ho' => hpn ch w'.heap hΨ a' w' ho' (hi.trans hi') rfl⟩))
attribute [local semireducible] X XR in
theorem XR_panic {i : Nat} {x : Operand} {ty : TypeId} {pos : String} {af : Array Edge} {g : Option (Nat × Bool)} {rest : List (Nat × Oper)} {T : TypeId} {v : Value} (E0 : Env) (hx : ev E x = some (.iface T v)) (hc : cs i ⟨none, .panic x, ty, pos, af, g⟩ = .wild) (hw : wantedE ops E ⟨none, .panic x, ty, pos, af, g⟩ = some true)
    (hs : Sub E0 E) (hd : c.pd = true → E0 = []) (h : XP c k [{ v := .iface T v, recovered := false }] E0 hp) : XR c cs ops ((i, ⟨none, .panic x, ty, pos, af, g⟩) :: rest) k E hp := by
  intro a w ho hi hh
  simp only [rgp, wantedE_spec hw ho.1, if_true, hc, stepC]
  refine wq_of_wpS ?_
  have hrun : (execOp a.eval ⟨none, .panic x, ty, pos, af, g⟩).run c.P w = .halt (.panic (.iface T v)) w := by
    simp only [execOp, ho.1.eval hx]
    simp [Instr.panic, goPanic, go_sem]
  simp only [Oper.wp, hrun, Oper.upon]
  exact ⟨E0, c.D, ⟨ho.1.sub hs, ho.2⟩, hd, fun a' ho' => h a' w ho' hi hh⟩
end
end Go.Bn

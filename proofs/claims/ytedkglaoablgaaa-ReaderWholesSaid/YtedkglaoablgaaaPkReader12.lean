/- Packed texts of a claim: what its theorem uses, joined. -/
import Derived.Test.YtedkglaoablgaaaProg
import Derived.Test.YtedkglaoablgaaaPkReader9
section
set_option linter.unusedVariables false
set_option linter.unusedSimpArgs false
set_option maxHeartbeats 4000000
set_option maxRecDepth 20000
namespace Go.Bn
open Go Proofs
section
variable {P : Program} {E : Env} {hp : Heap} {cl : Cls} {d : Option Tmp} {ty : TypeId} {pos : String} {af : Array Edge} {g : Option (Nat × Bool)} {x y : Operand} {t t' : TypeId}
theorem op_nilCheckI {T : TypeId} {v : Value} (hx : ev E x = some (.iface T v)) : Op1 cl P ⟨d, .nilCheck x, ty, pos, af, g⟩ E hp (.iface T v) :=
  .of_pure fun n a ho w' => by simp [execOp, ho.eval hx]
theorem opl_invoke {f : FuncId} {name : String} {args : Array Operand} {ts : Array TypeId} {vs : List Value} {T : TypeId} {rv : Value} {Φ : Value → Heap → Prop} (hx : ev E x = some (.iface T rv)) (hargs : evs E args.toList = some vs)
    (hm : ∀ w, (method (P.types.size + Made.depth) T rv name).run P w = .ok (f, rv) w) (h : Ret P f (rv :: vs) hp Φ) (hc : callOk P f = true) :
    OpL P ⟨d, .call ⟨.invoke x name, args, ts⟩, ty, pos, af, g⟩ E hp Φ := by
  intro n a w ho hw K hK
  unfold callOk at hc
  split at hc
  · rename_i fn hfn
    simp only [Bool.and_eq_true, Bool.not_eq_true'] at hc
    obtain ⟨hn, hb⟩ := hc
    have hn' : ¬ (fn.name = "runtime.NumGoroutine") := by simpa using hn
    have hb' : ¬ (fn.body = none) := by intro h; rw [h] at hb; cases hb
    have ha : args.map a.eval = vs.toArray := by
      apply Array.toList_inj.1
      rw [Array.toList_map, ho.evals hargs]
    have hm' := hm w
    have hrun : (execOp a.eval ⟨d, .call ⟨.invoke x name, args, ts⟩, ty, pos, af, g⟩).run P w = .ok (.enter f (rv :: vs).toArray) w := by
      have e0 : (#[Value.iface T rv] ++ vs.toArray)[0]? = some (.iface T rv) := by simp
      have e1 : (#[Value.iface T rv] ++ vs.toArray).extract 1 (#[Value.iface T rv] ++ vs.toArray).size = vs.toArray := by
        apply Array.toList_inj.1
        simp
      have hcm : (callMethod (.iface T rv) name vs.toArray).run P w = .ok (.enter f (rv :: vs).toArray) w := by
        have hp0 : Sem.run P program w = .ok P w := rfl
        have e2 : #[rv] ++ vs.toArray = (rv :: vs).toArray := by apply Array.toList_inj.1; simp
        simp only [callMethod, Sem.run_bind, hp0, Result.andThen_ok, hm']
        simp [callFunc, hfn, hn', hb', e2]
      simp [execOp, resolve, ho.eval hx, ha, invoke, e0, e1, hcm]
    simp only [Oper.wp, hrun, Oper.upon]
    refine (h w hw).mono ?_
    rintro e w' ⟨v, rfl, hi, hΦ⟩
    exact hK v w' hi hΦ
  · cases hc
end
structure Sou (B : Nat) where
  hb : Heap
  T : TypeId
  rv : Value
  f : FuncId
  SR : Nat → Res
  mv : Mv
  I : Nat → List UInt8 → Prop
  lim : Nat
  ok : MvOk mv lim I
  hlim : lim ≤ 1048576
  hm : ∀ w, (method (Try.prog.types.size + Made.depth) T rv "bindle/reader.more").run Try.prog w = .ok (f, rv) w
  hc : callOk Try.prog f = true
  more : ∀ (h0 : Heap) (v : Value) (a : Nat) (out : List UInt8) (F : List Res), Low B hb h0 → I a out → St B h0 h0 (row 5 1 v (out.map byteV) :: SR a :: F) →
    Ret Try.prog f [rv, v] h0 fun u h' => ∃ v', u = retVal [v', .bool (mv a out).2.2.1, nV (mv a out).2.2.2] ∧
      ((mv a out).2.2.1 = true → St B h0 h' (row 5 1 v' ((mv a out).2.1.map byteV) :: F)) ∧ ((mv a out).2.2.1 = false → St B h0 h' (row 5 1 v' ((mv a out).2.1.map byteV) :: SR (mv a out).1 :: F))
structure RdS where
  a : Nat
  out : List UInt8
  over : Bool
  e : Nat
  v : Value
def OnT {B : Nat} (S : Sou B) (gB : List UInt8) (gE : Nat) (s : RdS) : Prop := (s.over = true ∧ s.out = gB ∧ s.e = gE) ∨ (s.over = false ∧ s.e = 0 ∧ S.I s.a s.out ∧ Giv S.mv s.a s.out gB gE)
theorem OnT.pre {B : Nat} {S : Sou B} {gB : List UInt8} {gE : Nat} {s : RdS} (h : OnT S gB gE s) : ∃ x, gB = s.out ++ x := by
  rcases h with ⟨_, h, _⟩ | ⟨_, _, hI, g⟩
  · exact ⟨[], by rw [h]; simp⟩
  · exact (g.pre S.ok hI).1
def souR {B : Nat} (S : Sou B) (s : RdS) : Res := if s.over = true then emp else S.SR s.a
@[reducible] def rdC {B : Nat} (S : Sou B) (told : Nat) (s : RdS) : List Value := [.iface S.T S.rv, s.v, nV told, .bool s.over, nV s.e]
def rdrR {B : Nat} (S : Sou B) (pr : Nat) (gB : List UInt8) (gE told : Nat) : Res :=
  exR fun (s : RdS) => andR (OnT S gB gE s ∧ told ≤ s.out.length ∧ gB.length ≤ S.lim) (starR (pt pr 87 (rdC S told s)) (starR (Bn.row 5 1 s.v (s.out.map byteV)) (souR S s)))
theorem St.rdr {B pr : Nat} {S : Sou B} {gB : List UInt8} {gE told : Nat} {F : List Res} {h0 hp : Heap} (st : St B h0 hp (rdrR S pr gB gE told :: F)) :
    ∃ s, OnT S gB gE s ∧ told ≤ s.out.length ∧ gB.length ≤ S.lim ∧ St B h0 hp (pt pr 87 (rdC S told s) :: Bn.row 5 1 s.v (s.out.map byteV) :: souR S s :: F) := by
  obtain ⟨s, st⟩ := St.ex.1 st
  obtain ⟨⟨h1, h2, h3⟩, st⟩ := St.and.1 st
  have st2 := (St.star.1 st).perm (List.Perm.swap _ _ _)
  have st3 := St.star.1 st2
  refine ⟨s, h1, h2, h3, ?_⟩
  exact St.reF [_, _, _] 3 st3 [2, 0, 1] (by decide)
theorem St.unrdr {B pr : Nat} {S : Sou B} {gB : List UInt8} {gE told : Nat} {F : List Res} {h0 hp : Heap} {s : RdS} (st : St B h0 hp (pt pr 87 (rdC S told s) :: Bn.row 5 1 s.v (s.out.map byteV) :: souR S s :: F)) (h1 : OnT S gB gE s) (h2 : told ≤ s.out.length) (h3 : gB.length ≤ S.lim) :
    St B h0 hp (rdrR S pr gB gE told :: F) := by
  have st3 := St.star.2 (St.reF [_, _, _] 3 st [1, 2, 0] (by decide))
  exact St.ex.2 ⟨s, St.and.2 ⟨⟨h1, h2, h3⟩, St.star.2 (st3.perm (List.Perm.swap _ _ _))⟩⟩
theorem rfill_spec {B pr told : Nat} {n : Int} {S : Sou B} {gB : List UInt8} {gE : Nat} {F : List Res} {h0 : Heap} (st0 : St B h0 h0 (rdrR S pr gB gE told :: F)) (hlw : Low B S.hb h0) (hn : inK .i64 n) :
    Ret Try.prog 49 [.pointer (some ⟨pr, 0, none⟩), .int .i64 n] h0 fun v h' => v = .tuple #[] ∧ ∃ s, OnT S gB gE s ∧ told ≤ s.out.length ∧ gB.length ≤ S.lim ∧ (s.over = true ∨ n ≤ (s.out.length : Int) - told) ∧
      St B h0 h' (pt pr 87 (rdC S told s) :: row 5 1 s.v (s.out.map byteV) :: souR S s :: F) := by
  obtain ⟨s0, hT0, ht0, hgl, st⟩ := st0.rdr
  have hlim := S.hlim
  refine ret_of_X Try.func49 rfl rfl fun w0 hw0 => ?_
  simp only [argE, Nat.zero_add, Nat.reduceAdd]
  refine X_block ?_
  refine X_loop (fun s => if s.over = true then 0 else S.lim + 2 - s.out.length) (fun _ => [(0, .pointer (some ⟨pr, 0, none⟩)), (1, .int .i64 n)])
    (fun (s : RdS) hp => OnT S gB gE s ∧ told ≤ s.out.length ∧ St B h0 hp (pt pr 87 (rdC S told s) :: row 5 1 s.v (s.out.map byteV) :: souR S s :: F))
    s0 (.cons rfl (.cons rfl (.nil _))) ⟨hT0, ht0, st⟩ ?_
  clear st ht0 hT0 s0
  rintro ⟨a, out, ov, e, v⟩ hp ⟨hT, ht, st⟩
  have hpre := hT.pre
  simp only at ht hpre
  have hol : out.length ≤ S.lim := by obtain ⟨x, hx⟩ := hpre; rw [hx] at hgl; simp at hgl; omega
  obtain ⟨A1, n1, c1, rfl, hl1, _⟩ := st.row 1 rfl
  have hl1 : out.length = n1 := by simpa using hl1
  refine X_seq ?_
  refine X_seq ?_
  refine X_draw byKind (by kernel_rfl) (by kernel_rfl) ?_
  refine XR_a (op_move rfl) rfl rfl ?_
  refine XR_a (op_nilCheck rfl) rfl rfl ?_
  first | refine XR_a (op_field0 rfl rfl) rfl rfl ?_ | refine XR_a (op_fieldn rfl rfl) rfl rfl ?_
  refine XR_a (op_ld (st.cell 0 (i := 3) rfl rfl) rfl rfl rfl) rfl rfl ?_
  refine XR_a (op_not rfl) rfl rfl ?_
  refine XR_a (op_move rfl) rfl rfl ?_
  refine XR_split 9 rfl (fun h => ?_) (fun h => ?_)
  · have hov : ov = false := by simpa using h
    subst hov
    refine XR_a (op_move rfl) rfl rfl ?_
    refine XR_a (op_nilCheck rfl) rfl rfl ?_
    first | refine XR_a (op_field0 rfl rfl) rfl rfl ?_ | refine XR_a (op_fieldn rfl rfl) rfl rfl ?_
    refine XR_a (op_ld (st.cell 0 (i := 1) rfl rfl) rfl rfl rfl) rfl rfl ?_
    refine XR_a (op_len rfl rfl rfl) rfl rfl ?_
    refine XR_a (op_move rfl) rfl rfl ?_
    refine XR_a (op_nilCheck rfl) rfl rfl ?_
    first | refine XR_a (op_field0 rfl rfl) rfl rfl ?_ | refine XR_a (op_fieldn rfl rfl) rfl rfl ?_
    refine XR_a (op_ld (st.cell 0 (i := 2) rfl rfl) rfl rfl rfl) rfl rfl ?_
    refine XR_a (op_subI rfl rfl (by simp only [inK]; omega)) rfl rfl ?_
    refine XR_a (op_move rfl) rfl rfl ?_
    refine XR_a (op_lss rfl rfl) rfl rfl ?_
    refine XR_a (op_pick_t rfl rfl) rfl rfl ?_
    refine XR_nil ?_
    refine X_if rfl (fun h => ?_) (fun h => ?_)
    · refine X_skip ?_
      refine X_block ?_
      refine X_draw byKind (by kernel_rfl) (by kernel_rfl) ?_
      refine XR_a (op_move rfl) rfl rfl ?_
      refine XR_a (op_move rfl) rfl rfl ?_
      refine XR_a (op_move rfl) rfl rfl ?_
      refine XR_a (op_move rfl) rfl rfl ?_
      refine XR_a (op_nilCheck rfl) rfl rfl ?_
      first | refine XR_a (op_field0 rfl rfl) rfl rfl ?_ | refine XR_a (op_fieldn rfl rfl) rfl rfl ?_
      refine XR_a (op_ld (st.cell 0 (i := 0) rfl rfl) rfl rfl rfl) rfl rfl ?_
      refine XR_a (op_move rfl) rfl rfl ?_
      refine XR_a (op_nilCheck rfl) rfl rfl ?_
      first | refine XR_a (op_field0 rfl rfl) rfl rfl ?_ | refine XR_a (op_fieldn rfl rfl) rfl rfl ?_
      refine XR_a (op_ld (st.cell 0 (i := 1) rfl rfl) rfl rfl rfl) rfl rfl ?_
      refine XR_a (op_nilCheckI rfl) rfl rfl ?_
      refine XR_a (op_move rfl) rfl rfl ?_
      have hT2 := hT
      simp only [OnT] at hT2
      obtain ⟨he0, hI, hg⟩ : e = 0 ∧ S.I a out ∧ Giv S.mv a out gB gE := by simpa using hT2
      have stc := St.reF [_, _, _] 3 st [1, 2, 0] (by decide)
      simp only [List.map_cons, List.map_nil, getR, List.cons_append, List.nil_append] at stc
      refine XR_wa (opl_invoke rfl rfl S.hm (S.more hp _ a out _ (hlw.trans stc.low) hI (St.here (by exact stc))) S.hc) rfl rfl rfl ?_
      rintro _ hp2 ⟨v2, rfl, hov, hgo⟩
      have hgr := S.ok.grow a out hI
      have hle := S.ok.le a out hI
      have hpr := S.ok.pre a out hI
      obtain ⟨M, hM⟩ : ∃ M, S.mv a out = M := ⟨_, rfl⟩
      rw [hM] at hov hgo hgr hle hpr ⊢
      have hlen : out.length ≤ M.2.1.length := by obtain ⟨x, hx⟩ := hpr; rw [hx]; simp
      have st2 : St B h0 hp2 (row 5 1 v2 (M.2.1.map byteV) :: souR S ⟨M.1, M.2.1, M.2.2.1, M.2.2.2, v2⟩ :: pt pr 87 (rdC S told ⟨a, out, false, e, .slice A1 n1 c1⟩) :: F) := by
        refine stc.trans ?_
        cases hh : M.2.2.1 with
        | true =>
          have := hov hh
          unfold souR
          rw [if_pos rfl]
          exact (St.emp.2 this).perm (List.Perm.swap _ _ _)
        | false => exact hgo hh
      have hT3 : OnT S gB gE ⟨M.1, M.2.1, M.2.2.1, M.2.2.2, v2⟩ := by
        cases hh : M.2.2.1 with
        | true =>
          refine .inl ⟨rfl, ?_⟩
          have := Giv.det (Giv.over (mv := S.mv) (a := a) (out := out) (by rw [hM]; exact hh)) hg
          rw [hM] at this
          exact this
        | false =>
          obtain ⟨g1, g2, g3⟩ := hgr hh
          refine .inr ⟨rfl, g2, g3, ?_⟩
          cases hg with
          | over h9 => rw [hM, hh] at h9; cases h9
          | more h9 hg => rw [hM] at hg; exact hg
      clear st stc hov hgo
      have hv2 : Value.one v2 = true := row_one st2 0 rfl
      have st := st2
      clear st2
      refine XR_a (op_move rfl) rfl rfl ?_
      refine XR_a (op_extract rfl rfl) rfl rfl ?_
      refine XR_a (op_extract rfl rfl) rfl rfl ?_
      refine XR_a (op_extract rfl rfl) rfl rfl ?_
      refine XR_a (op_nilCheck rfl) rfl rfl ?_
      first | refine XR_a (op_field0 rfl rfl) rfl rfl ?_ | refine XR_a (op_fieldn rfl rfl) rfl rfl ?_
      refine XR_wn (opl_store_pt st 2 rfl rfl rfl rfl rfl (hv2)) rfl rfl fun _ hp st => ?_
      simp only [List.set_cons_zero, List.set_cons_succ] at st
      refine XR_a (op_nilCheck rfl) rfl rfl ?_
      first | refine XR_a (op_field0 rfl rfl) rfl rfl ?_ | refine XR_a (op_fieldn rfl rfl) rfl rfl ?_
      refine XR_wn (opl_store_pt st 2 rfl rfl rfl rfl rfl (rfl)) rfl rfl fun _ hp st => ?_
      simp only [List.set_cons_zero, List.set_cons_succ] at st
      refine XR_a (op_nilCheck rfl) rfl rfl ?_
      first | refine XR_a (op_field0 rfl rfl) rfl rfl ?_ | refine XR_a (op_fieldn rfl rfl) rfl rfl ?_
      refine XR_wn (opl_store_pt st 2 rfl rfl rfl rfl rfl (rfl)) rfl rfl fun _ hp st => ?_
      simp only [List.set_cons_zero, List.set_cons_succ] at st
      refine XR_nil ?_
      refine X_blk ?_
      refine X_again ⟨M.1, M.2.1, M.2.2.1, M.2.2.2, v2⟩ (.cons rfl (.cons rfl (.nil _))) ⟨hT3, by simp only; omega, ?_⟩ ?_
      · exact St.reF [_, _, _] 3 st [2, 0, 1] (by decide)
      · simp only
        cases hh : M.2.2.1 with
        | true => simp; omega
        | false =>
          have := (hgr hh).1
          simp; omega
    · refine X_exit rfl ?_
      refine X_end .nil ?_
      exact ⟨rfl, ⟨a, out, false, e, _⟩, hT, ht, hgl, .inr (by simp only; omega), st⟩
  · have hov : ov = true := by simpa using h
    subst hov
    refine XR_no rfl rfl ?_
    refine XR_no rfl rfl ?_
    refine XR_no rfl rfl ?_
    refine XR_no rfl rfl ?_
    refine XR_no rfl rfl ?_
    refine XR_no rfl rfl ?_
    refine XR_no rfl rfl ?_
    refine XR_no rfl rfl ?_
    refine XR_no rfl rfl ?_
    refine XR_no rfl rfl ?_
    refine XR_no rfl rfl ?_
    refine XR_no rfl rfl ?_
    refine XR_a (op_pick_f rfl rfl) rfl rfl ?_
    refine XR_nil ?_
    refine X_else rfl ?_
    refine X_exit rfl ?_
    refine X_end .nil ?_
    exact ⟨rfl, ⟨a, out, true, e, _⟩, hT, ht, hgl, .inl rfl, st⟩
def nextK (gB : List UInt8) (told : Nat) (n : Int) : Nat := if n < 1 then 0 else min n.toNat (gB.length - told)
def nextE (gB : List UInt8) (gE told : Nat) (n : Int) : Nat := if n < 1 then 0 else if gB.length ≤ told then gE else 0
theorem rnext_spec {B pr told : Nat} {n : Int} {S : Sou B} {gB : List UInt8} {gE : Nat} {F : List Res} {h0 : Heap} (st0 : St B h0 h0 (rdrR S pr gB gE told :: F)) (hlw : Low B S.hb h0) (hn : inK .i64 n) :
    Ret Try.prog 17 [.pointer (some ⟨pr, 0, none⟩), .int .i64 n] h0 fun v h' => ∃ w, v = retVal [w, nV (nextE gB gE told n)] ∧
      St B h0 h' (row 5 1 w (((gB.drop told).take (nextK gB told n)).map byteV) :: rdrR S pr gB gE (told + nextK gB told n) :: F) := by
  have hlim := S.hlim
  obtain ⟨K, hK⟩ : ∃ K, nextK gB told n = K := ⟨_, rfl⟩
  obtain ⟨X, hX⟩ : ∃ X, nextE gB gE told n = X := ⟨_, rfl⟩
  rw [hK, hX]
  unfold nextK at hK
  unfold nextE at hX
  refine ret_of_X Try.func17 rfl rfl fun w0 hw0 => ?_
  simp only [argE, Nat.zero_add, Nat.reduceAdd]
  refine X_seq ?_
  refine X_reg ?_
  refine XR_a (op_assign rfl) rfl rfl ?_
  refine XR_a (op_assign rfl) rfl rfl ?_
  refine XR_nil ?_
  refine X_seq ?_
  refine X_seq ?_
  refine X_reg ?_
  refine XR_a (op_move rfl) rfl rfl ?_
  refine XR_a (op_ptr_nil rfl rfl rfl) rfl rfl ?_
  refine XR_nil ?_
  refine X_else rfl ?_
  refine X_skip ?_
  refine X_seq ?_
  refine X_seq ?_
  refine X_reg ?_
  refine XR_a (op_move rfl) rfl rfl ?_
  refine XR_a (op_lss rfl rfl) rfl rfl ?_
  refine XR_nil ?_
  refine X_if rfl (fun h => ?_) (fun h => ?_)
  · refine X_seq ?_
    refine X_reg ?_
    refine XR_a (op_assign rfl) rfl rfl ?_
    refine XR_a (op_assign rfl) rfl rfl ?_
    refine XR_nil ?_
    refine X_ret (.cons (.tmp rfl) (.cons (.tmp rfl) .nil)) ?_
    rw [if_pos (by omega)] at hK hX
    subst hK hX
    refine ⟨_, rfl, ?_⟩
    rw [Nat.add_zero, List.take_zero]
    exact st0.nilrow 5 1
  · refine X_skip ?_
    refine X_seq ?_
    refine X_reg ?_
    refine XR_a (op_move rfl) rfl rfl ?_
    refine XR_a (op_move rfl) rfl rfl ?_
    refine XR_wa (opl_call (rfill_spec st0 hlw hn) rfl (by kernel_rfl)) rfl rfl rfl ?_
    rintro _ hp ⟨rfl, ⟨a, out, ov, e, v⟩, hT, ht, hgl, hov, st⟩
    rw [if_neg (by omega)] at hK hX
    have hpre := hT.pre
    simp only at ht hpre hov
    obtain ⟨x, hx⟩ := hpre
    have hgbl : gB.length = out.length + x.length := by rw [hx]; simp
    obtain ⟨A1, n1, c1, rfl, hl1, hc1, _⟩ := st.row 1 rfl
    have hl1 : out.length = n1 := by simpa using hl1
    have hKo : K = min n.toNat (out.length - told) ∧ K ≤ out.length - told := by
      rcases hov with h | h
      · subst h
        rcases hT with ⟨_, h2, _⟩ | ⟨h2, _⟩
        · simp only at h2; subst h2; omega
        · cases h2
      · omega
    refine XR_nil ?_
    refine X_seq ?_
    refine X_draw byKind (by kernel_rfl) (by kernel_rfl) ?_
    refine XR_a (op_move rfl) rfl rfl ?_
    refine XR_a (op_move rfl) rfl rfl ?_
    refine XR_a (op_nilCheck rfl) rfl rfl ?_
    first | refine XR_a (op_field0 rfl rfl) rfl rfl ?_ | refine XR_a (op_fieldn rfl rfl) rfl rfl ?_
    refine XR_a (op_ld (st.cell 0 (i := 1) rfl rfl) rfl rfl rfl) rfl rfl ?_
    refine XR_a (op_len rfl rfl rfl) rfl rfl ?_
    refine XR_a (op_move rfl) rfl rfl ?_
    refine XR_a (op_nilCheck rfl) rfl rfl ?_
    first | refine XR_a (op_field0 rfl rfl) rfl rfl ?_ | refine XR_a (op_fieldn rfl rfl) rfl rfl ?_
    refine XR_a (op_ld (st.cell 0 (i := 2) rfl rfl) rfl rfl rfl) rfl rfl ?_
    refine XR_a (op_subI rfl rfl (by simp only [inK]; omega)) rfl rfl ?_
    refine XR_a (op_min2 rfl rfl) rfl rfl ?_
    refine XR_as (nV K) (congrArg (Value.int .i64) (by omega)) ?_
    refine XR_a (op_assign rfl) rfl rfl ?_
    refine XR_nil ?_
    refine X_seq ?_
    refine X_seq ?_
    refine X_reg ?_
    refine XR_a (op_move rfl) rfl rfl ?_
    refine XR_a (op_eql rfl rfl) rfl rfl ?_
    refine XR_nil ?_
    refine X_if rfl (fun h => ?_) (fun h => ?_)
    · refine X_seq ?_
      refine X_draw byKind (by kernel_rfl) (by kernel_rfl) ?_
      refine XR_a (op_move rfl) rfl rfl ?_
      refine XR_a (op_nilCheck rfl) rfl rfl ?_
      first | refine XR_a (op_field0 rfl rfl) rfl rfl ?_ | refine XR_a (op_fieldn rfl rfl) rfl rfl ?_
      refine XR_a (op_ld (st.cell 0 (i := 4) rfl rfl) rfl rfl rfl) rfl rfl ?_
      refine XR_a (op_assign rfl) rfl rfl ?_
      refine XR_a (op_assign rfl) rfl rfl ?_
      refine XR_nil ?_
      refine X_ret (.cons (.tmp rfl) (.cons (.tmp rfl) .nil)) ?_
      have hK0 : K = 0 := by omega
      have hover : ov = true ∧ out = gB ∧ e = gE := by
        rcases hT with h | ⟨h1, _⟩
        · exact h
        · simp only at h1; subst h1
          rcases hov with h | h
          · cases h
          · omega
      obtain ⟨rfl, rfl, rfl⟩ := hover
      rw [if_pos (by omega)] at hX
      subst hK0 hX
      refine ⟨_, rfl, ?_⟩
      rw [Nat.add_zero, List.take_zero]
      exact (st.unrdr hT ht hgl).nilrow 5 1
    · have hK1 : 1 ≤ K := by omega
      rw [if_neg (by omega)] at hX
      subst hX
      refine X_skip ?_
      refine X_seq ?_
      refine X_draw_in byKind [1, 2, 3, 4, 5, 6, 7, 8, 9, 10, 11, 12, 13, 14, 15, 0, 16, 17] (by kernel_rfl) (by kernel_rfl) rfl ?_
      refine XR_a (op_move rfl) rfl rfl ?_
      refine XR_a (op_nilCheck rfl) rfl rfl ?_
      first | refine XR_a (op_field0 rfl rfl) rfl rfl ?_ | refine XR_a (op_fieldn rfl rfl) rfl rfl ?_
      refine XR_a (op_ld (st.cell 0 (i := 1) rfl rfl) rfl rfl rfl) rfl rfl ?_
      refine XR_a (op_move rfl) rfl rfl ?_
      refine XR_a (op_nilCheck rfl) rfl rfl ?_
      first | refine XR_a (op_field0 rfl rfl) rfl rfl ?_ | refine XR_a (op_fieldn rfl rfl) rfl rfl ?_
      refine XR_a (op_ld (st.cell 0 (i := 2) rfl rfl) rfl rfl rfl) rfl rfl ?_
      refine XR_a (op_move rfl) rfl rfl ?_
      refine XR_a (op_nilCheck rfl) rfl rfl ?_
      first | refine XR_a (op_field0 rfl rfl) rfl rfl ?_ | refine XR_a (op_fieldn rfl rfl) rfl rfl ?_
      refine XR_a (op_ld (st.cell 0 (i := 2) rfl rfl) rfl rfl rfl) rfl rfl ?_
      refine XR_a (op_move rfl) rfl rfl ?_
      first | refine XR_a (op_addN rfl rfl (by simp only [inK]; omega)) rfl rfl ?_ | refine XR_a (op_addI rfl rfl (by simp only [inK]; omega)) rfl rfl ?_ | refine XR_a (op_add rfl rfl) rfl rfl ?_
      refine XR_a (op_slice (l := told) (h := told + K) rfl rfl rfl rfl (by omega) (by omega)) rfl rfl ?_
      have hcut := ((st.rdS 1 rfl).2).cut told 1 c1 K (by intro hh; simp; omega)
      rw [Nat.mul_one, ← List.map_drop, ← List.map_take] at hcut
      refine XR_ga (opl_lit0 rfl) rfl rfl rfl (fun _ _ e => e.1) ?_
      rintro v8 hp hnew
      replace st := st.new hnew
      refine XR_wa (opl_append st 0 rfl (hcut.ext hnew.1) (by simp; omega) (one_bytes _) (by simp; omega) rfl rfl rfl rfl rfl rfl rfl) rfl rfl rfl fun v hp st => ?_
      simp only [List.set_cons_zero, List.set_cons_succ] at st
      rw [List.nil_append, show (out.drop told).take K = (gB.drop told).take K by rw [hx, List.drop_append, List.take_append, show K - (out.drop told).length = 0 by rw [List.length_drop]; omega, List.take_zero, List.append_nil]] at st
      obtain ⟨A8, n8, c8, rfl, _⟩ := st.row 0 rfl
      refine XR_a (op_assign rfl) rfl rfl ?_
      refine XR_nil ?_
      refine X_seq ?_
      refine X_reg ?_
      refine XR_a (op_move rfl) rfl rfl ?_
      refine XR_a (op_nilCheck rfl) rfl rfl ?_
      first | refine XR_a (op_field0 rfl rfl) rfl rfl ?_ | refine XR_a (op_fieldn rfl rfl) rfl rfl ?_
      refine XR_a (op_ld (st.cell 1 (i := 2) rfl rfl) rfl rfl rfl) rfl rfl ?_
      refine XR_a (op_move rfl) rfl rfl ?_
      first | refine XR_a (op_addN rfl rfl (by simp only [inK]; omega)) rfl rfl ?_ | refine XR_a (op_addI rfl rfl (by simp only [inK]; omega)) rfl rfl ?_ | refine XR_a (op_add rfl rfl) rfl rfl ?_
      refine XR_a (op_nilCheck rfl) rfl rfl ?_
      first | refine XR_a (op_field0 rfl rfl) rfl rfl ?_ | refine XR_a (op_fieldn rfl rfl) rfl rfl ?_
      refine XR_wn (opl_store_pt st 1 rfl rfl rfl rfl rfl (rfl)) rfl rfl fun _ hp st => ?_
      simp only [List.set_cons_zero, List.set_cons_succ] at st
      refine XR_nil ?_
      refine X_seq ?_
      refine X_reg ?_
      refine XR_a (op_move rfl) rfl rfl ?_
      refine XR_a (op_assign rfl) rfl rfl ?_
      refine XR_a (op_assign rfl) rfl rfl ?_
      refine XR_nil ?_
      refine X_ret (.cons (.tmp rfl) (.cons (.tmp rfl) .nil)) ?_
      refine ⟨_, rfl, ?_⟩
      have st2 : St B h0 hp ([row 5 1 (.slice A8 n8 c8) (((gB.drop told).take K).map byteV), pt pr 87 (rdC S (told + K) ⟨a, out, ov, e, .slice A1 n1 c1⟩), row 5 1 (.slice A1 n1 c1) (out.map byteV), souR S ⟨a, out, ov, e, .slice A1 n1 c1⟩] ++ F) := st
      have st3 := St.reF _ 4 st2 [1, 2, 3, 0] (by decide)
      exact (St.unrdr (s := ⟨a, out, ov, e, .slice A1 n1 c1⟩) st3 hT (by simp only; omega) hgl).perm (List.Perm.swap _ _ _)
theorem rnext_nil (n : Value) (h0 : Heap) : Ret Try.prog 17 [.pointer none, n] h0 fun v h' => v = retVal [.slice none 0 0, nV 1] ∧ h0 = h' := by
  refine ret_of_X Try.func17 rfl rfl fun w0 hw0 => ?_
  simp only [argE, Nat.zero_add, Nat.reduceAdd]
  refine X_seq ?_
  refine X_reg ?_
  refine XR_a (op_assign rfl) rfl rfl ?_
  refine XR_a (op_assign rfl) rfl rfl ?_
  refine XR_nil ?_
  refine X_seq ?_
  refine X_seq ?_
  refine X_reg ?_
  refine XR_a (op_move rfl) rfl rfl ?_
  refine XR_a (op_ptr_nil rfl rfl rfl) rfl rfl ?_
  refine XR_nil ?_
  refine X_then rfl ?_
  refine X_seq ?_
  refine X_reg ?_
  refine XR_a (op_assign rfl) rfl rfl ?_
  refine XR_a (op_assign rfl) rfl rfl ?_
  refine XR_nil ?_
  refine X_ret (.cons (.tmp rfl) (.cons (.tmp rfl) .nil)) ?_
  exact ⟨rfl, rfl⟩
theorem rat_rd {B pr told : Nat} {S : Sou B} {gB : List UInt8} {gE : Nat} {F : List Res} {hb h0 : Heap} (st0 : St B hb h0 (rdrR S pr gB gE told :: F)) :
    Ret Try.prog 15 [.pointer (some ⟨pr, 0, none⟩)] h0 fun v h' => v = nV told ∧ h0 = h' := by
  obtain ⟨s, hT, ht, hgl, st⟩ := st0.rdr
  refine ret_of_X Try.func15 rfl rfl fun w0 hw0 => ?_
  simp only [argE, Nat.zero_add, Nat.reduceAdd]
  refine X_seq ?_
  refine X_reg ?_
  refine XR_a (op_assign rfl) rfl rfl ?_
  refine XR_nil ?_
  refine X_seq ?_
  refine X_seq ?_
  refine X_reg ?_
  refine XR_a (op_move rfl) rfl rfl ?_
  refine XR_a (op_ptr_nil rfl rfl rfl) rfl rfl ?_
  refine XR_nil ?_
  refine X_else rfl ?_
  refine X_skip ?_
  refine X_seq ?_
  refine X_reg ?_
  refine XR_a (op_move rfl) rfl rfl ?_
  refine XR_a (op_nilCheck rfl) rfl rfl ?_
  first | refine XR_a (op_field0 rfl rfl) rfl rfl ?_ | refine XR_a (op_fieldn rfl rfl) rfl rfl ?_
  refine XR_a (op_ld (st.cell 0 (i := 2) rfl rfl) rfl rfl rfl) rfl rfl ?_
  refine XR_a (op_assign rfl) rfl rfl ?_
  refine XR_nil ?_
  refine X_ret (.cons (.tmp rfl) .nil) ?_
  exact ⟨rfl, rfl⟩
theorem rat_rd_nil (h0 : Heap) : Ret Try.prog 15 [.pointer none] h0 fun v h' => v = nV 0 ∧ h0 = h' := by
  refine ret_of_X Try.func15 rfl rfl fun w0 hw0 => ?_
  simp only [argE, Nat.zero_add, Nat.reduceAdd]
  refine X_seq ?_
  refine X_reg ?_
  refine XR_a (op_assign rfl) rfl rfl ?_
  refine XR_nil ?_
  refine X_seq ?_
  refine X_seq ?_
  refine X_reg ?_
  refine XR_a (op_move rfl) rfl rfl ?_
  refine XR_a (op_ptr_nil rfl rfl rfl) rfl rfl ?_
  refine XR_nil ?_
  refine X_then rfl ?_
  refine X_seq ?_
  refine X_reg ?_
  refine XR_a (op_assign rfl) rfl rfl ?_
  refine XR_nil ?_
  refine X_ret (.cons (.tmp rfl) .nil) ?_
  exact ⟨rfl, rfl⟩
theorem rdone_spec {B pr told : Nat} {S : Sou B} {gB : List UInt8} {gE : Nat} {F : List Res} {h0 : Heap} (st0 : St B h0 h0 (rdrR S pr gB gE told :: F)) (hlw : Low B S.hb h0) :
    Ret Try.prog 16 [.pointer (some ⟨pr, 0, none⟩)] h0 fun v h' => v = .bool (decide (told = gB.length ∧ gE = 0)) ∧ St B h0 h' (rdrR S pr gB gE told :: F) := by
  have hlim := S.hlim
  refine ret_of_X Try.func16 rfl rfl fun w0 hw0 => ?_
  simp only [argE, Nat.zero_add, Nat.reduceAdd]
  refine X_seq ?_
  refine X_reg ?_
  refine XR_a (op_assign rfl) rfl rfl ?_
  refine XR_nil ?_
  refine X_seq ?_
  refine X_seq ?_
  refine X_reg ?_
  refine XR_a (op_move rfl) rfl rfl ?_
  refine XR_a (op_ptr_nil rfl rfl rfl) rfl rfl ?_
  refine XR_nil ?_
  refine X_else rfl ?_
  refine X_skip ?_
  refine X_seq ?_
  refine X_reg ?_
  refine XR_a (op_move rfl) rfl rfl ?_
  refine XR_wa (opl_call (rfill_spec st0 hlw (n := 1) (by simp only [inK]; omega)) rfl (by kernel_rfl)) rfl rfl rfl ?_
  rintro _ hp ⟨rfl, ⟨a, out, ov, e, v⟩, hT, ht, hgl, hov, st⟩
  have hpre := hT.pre
  simp only at ht hpre hov
  obtain ⟨x, hx⟩ := hpre
  have hgbl : gB.length = out.length + x.length := by rw [hx]; simp
  obtain ⟨A1, n1, c1, rfl, hl1, hc1, _⟩ := st.row 1 rfl
  have hl1 : out.length = n1 := by simpa using hl1
  refine XR_nil ?_
  refine X_seq ?_
  refine X_draw byKind (by kernel_rfl) (by kernel_rfl) ?_
  refine XR_a (op_move rfl) rfl rfl ?_
  refine XR_a (op_nilCheck rfl) rfl rfl ?_
  first | refine XR_a (op_field0 rfl rfl) rfl rfl ?_ | refine XR_a (op_fieldn rfl rfl) rfl rfl ?_
  refine XR_a (op_ld (st.cell 0 (i := 3) rfl rfl) rfl rfl rfl) rfl rfl ?_
  refine XR_a (op_move rfl) rfl rfl ?_
  refine XR_split 11 rfl (fun h => ?_) (fun h => ?_)
  · subst h
    obtain ⟨rfl, rfl⟩ : out = gB ∧ e = gE := by
      rcases hT with h | ⟨h1, _⟩
      · exact h.2
      · cases h1
    refine XR_a (op_move rfl) rfl rfl ?_
    refine XR_a (op_nilCheck rfl) rfl rfl ?_
    first | refine XR_a (op_field0 rfl rfl) rfl rfl ?_ | refine XR_a (op_fieldn rfl rfl) rfl rfl ?_
    refine XR_a (op_ld (st.cell 0 (i := 2) rfl rfl) rfl rfl rfl) rfl rfl ?_
    refine XR_a (op_move rfl) rfl rfl ?_
    refine XR_a (op_nilCheck rfl) rfl rfl ?_
    first | refine XR_a (op_field0 rfl rfl) rfl rfl ?_ | refine XR_a (op_fieldn rfl rfl) rfl rfl ?_
    refine XR_a (op_ld (st.cell 0 (i := 1) rfl rfl) rfl rfl rfl) rfl rfl ?_
    refine XR_a (op_len rfl rfl rfl) rfl rfl ?_
    refine XR_a (op_eql rfl rfl) rfl rfl ?_
    refine XR_a (op_pick_t rfl rfl) rfl rfl ?_
    refine XR_a (op_move rfl) rfl rfl ?_
    refine XR_if 23 rfl (fun h => ?_) (fun h => ?_)
    · refine XR_a (op_move rfl) rfl rfl ?_
      refine XR_a (op_nilCheck rfl) rfl rfl ?_
      first | refine XR_a (op_field0 rfl rfl) rfl rfl ?_ | refine XR_a (op_fieldn rfl rfl) rfl rfl ?_
      refine XR_a (op_ld (st.cell 0 (i := 4) rfl rfl) rfl rfl rfl) rfl rfl ?_
      refine XR_a (op_eql rfl rfl) rfl rfl ?_
      refine XR_a (op_pick_t rfl rfl) rfl rfl ?_
      refine XR_a (op_assign rfl) rfl rfl ?_
      refine XR_nil ?_
      refine X_ret (.cons (.tmp rfl) .nil) ?_
      first
        | exact ⟨congrArg Value.bool (decide_eq_false (by omega)).symm, st.unrdr hT ht hgl⟩
        | exact ⟨congrArg Value.bool (decide_eq_decide.2 ⟨fun hh => by (try simp only at hh); (try simp only); omega, fun hh => by (try simp only at hh); (try simp only); omega⟩), st.unrdr hT ht hgl⟩
    · refine XR_no rfl rfl ?_
      refine XR_no rfl rfl ?_
      refine XR_no rfl rfl ?_
      refine XR_no rfl rfl ?_
      refine XR_no rfl rfl ?_
      refine XR_a (op_pick_f rfl rfl) rfl rfl ?_
      refine XR_a (op_assign rfl) rfl rfl ?_
      refine XR_nil ?_
      refine X_ret (.cons (.tmp rfl) .nil) ?_
      first
        | exact ⟨congrArg Value.bool (decide_eq_false (by omega)).symm, st.unrdr hT ht hgl⟩
        | exact ⟨congrArg Value.bool (decide_eq_decide.2 ⟨fun hh => by (try simp only at hh); (try simp only); omega, fun hh => by (try simp only at hh); (try simp only); omega⟩), st.unrdr hT ht hgl⟩
  · subst h
    have hlt : told < out.length := by
      rcases hov with h | h
      · cases h
      · omega
    refine XR_no rfl rfl ?_
    refine XR_no rfl rfl ?_
    refine XR_no rfl rfl ?_
    refine XR_no rfl rfl ?_
    refine XR_no rfl rfl ?_
    refine XR_no rfl rfl ?_
    refine XR_no rfl rfl ?_
    refine XR_no rfl rfl ?_
    refine XR_no rfl rfl ?_
    refine XR_no rfl rfl ?_
    refine XR_a (op_pick_f rfl rfl) rfl rfl ?_
    refine XR_a (op_move rfl) rfl rfl ?_
    refine XR_no rfl rfl ?_
    refine XR_no rfl rfl ?_
    refine XR_no rfl rfl ?_
    refine XR_no rfl rfl ?_
    refine XR_no rfl rfl ?_
    refine XR_a (op_pick_f rfl rfl) rfl rfl ?_
    refine XR_a (op_assign rfl) rfl rfl ?_
    refine XR_nil ?_
    refine X_ret (.cons (.tmp rfl) .nil) ?_
    exact ⟨congrArg Value.bool (decide_eq_false (by omega)).symm, st.unrdr hT ht hgl⟩
theorem rdone_nil (h0 : Heap) : Ret Try.prog 16 [.pointer none] h0 fun v h' => v = .bool false ∧ h0 = h' := by
  refine ret_of_X Try.func16 rfl rfl fun w0 hw0 => ?_
  simp only [argE, Nat.zero_add, Nat.reduceAdd]
  refine X_seq ?_
  refine X_reg ?_
  refine XR_a (op_assign rfl) rfl rfl ?_
  refine XR_nil ?_
  refine X_seq ?_
  refine X_seq ?_
  refine X_reg ?_
  refine XR_a (op_move rfl) rfl rfl ?_
  refine XR_a (op_ptr_nil rfl rfl rfl) rfl rfl ?_
  refine XR_nil ?_
  refine X_then rfl ?_
  refine X_seq ?_
  refine X_reg ?_
  refine XR_a (op_assign rfl) rfl rfl ?_
  refine XR_nil ?_
  refine X_ret (.cons (.tmp rfl) .nil) ?_
  exact ⟨rfl, rfl⟩
end Go.Bn
end

section
set_option linter.unusedVariables false
set_option linter.unusedSimpArgs false
set_option maxHeartbeats 4000000
set_option maxRecDepth 20000
namespace Go.Bn
open Go Proofs
def cutI (n low high : Int) : Int := max low (min n high)
theorem cut_spec (n low high : Int) (h0 : Heap) : Ret Try.prog 111 [.int .i64 n, .int .i64 low, .int .i64 high] h0 fun v h' => v = .int .i64 (cutI n low high) ∧ h0 = h' := by
  refine ret_of_X Try.func111 rfl rfl fun w0 hw0 => ?_
  simp only [argE, Nat.zero_add, Nat.reduceAdd]
  refine X_seq ?_
  refine X_reg ?_
  refine XR_a (op_assign rfl) rfl rfl ?_
  refine XR_nil ?_
  refine X_seq ?_
  refine X_reg ?_
  refine XR_a (op_move rfl) rfl rfl ?_
  refine XR_a (op_move rfl) rfl rfl ?_
  refine XR_a (op_move rfl) rfl rfl ?_
  refine XR_a (op_min2 rfl rfl) rfl rfl ?_
  refine XR_a (op_max2 rfl rfl) rfl rfl ?_
  refine XR_a (op_assign rfl) rfl rfl ?_
  refine XR_nil ?_
  refine X_ret (.cons (.tmp rfl) .nil) ?_
  exact ⟨rfl, rfl⟩
theorem cut15 (n : Int) : cutI n 0 15 = (wd 15 n : Nat) := by unfold cutI wd; omega
theorem tval_bit (l : List Bool) (b : Int) (h : b = 0 ∨ b = 1) : tval (l ++ [b == 1]) = tval l * 2 + b.toNat := by
  rw [tval_snoc]
  rcases h with rfl | rfl <;> rfl
theorem ediv_succ (x : Int) (k : Nat) : x / 2 ^ (k + 1) = x / 2 ^ k / 2 := by
  rw [Int.pow_succ, Int.ediv_ediv_of_nonneg (Int.le_of_lt (Int.pow_pos (by omega)))]
theorem turn_spec (n many : Int) (h0 : Heap) (hn : inK .i64 n) : Ret Try.prog 146 [.int .i64 n, .int .i64 many] h0 fun v h' => v = .int .i64 (turnI n (wd 15 many) : Nat) ∧ h0 = h' := by
  have hw := wd_le 15 many
  refine ret_of_X Try.func146 rfl rfl fun w0 hw0 => ?_
  simp only [argE, Nat.zero_add, Nat.reduceAdd]
  refine X_seq ?_
  refine X_reg ?_
  refine XR_a (op_assign rfl) rfl rfl ?_
  refine XR_nil ?_
  refine X_seq ?_
  refine X_reg ?_
  refine XR_a (op_assign rfl) rfl rfl ?_
  refine XR_nil ?_
  refine X_seq ?_
  refine X_seq ?_
  refine X_reg ?_
  refine XR_a (op_move rfl) rfl rfl ?_
  refine XR_wa (opl_call (cut_spec many 0 15 _) rfl (by kernel_rfl)) rfl rfl rfl ?_
  rintro _ _ ⟨rfl, rfl⟩
  rw [cut15]
  refine XR_a (op_move rfl) rfl rfl ?_
  refine XR_nil ?_
  refine X_block ?_
  obtain ⟨k, hk⟩ : ∃ k, wd 15 many = k := ⟨_, rfl⟩
  rw [hk] at hw ⊢
  refine X_loop (fun i => k - i) (fun i => [(0, .int .i64 (n / 2 ^ i)), (5, .int .i64 (turnI n i : Nat)), (7, .int .i64 (k : Nat)), (8, .int .i64 (i : Nat))])
    (fun (i : Nat) hp => hp = h0 ∧ i ≤ k)
    0 (.cons (by rw [Int.pow_zero, Int.ediv_one]; rfl) (.cons rfl (.cons rfl (.cons rfl (.nil _))))) ⟨rfl, by omega⟩ ?_
  rintro i hp ⟨rfl, hi⟩
  refine X_seq ?_
  refine X_reg ?_
  refine XR_a (op_lss rfl rfl) rfl rfl ?_
  refine XR_nil ?_
  refine X_seq ?_
  refine X_if rfl (fun h => ?_) (fun h => ?_)
  · have hlt := turnI_lt n i
    have hpw : 2 ^ i ≤ 32768 := Nat.pow_le_pow_right (n := 2) (by omega) (show i ≤ 15 by omega)
    have h01 : n / 2 ^ i % 2 = 0 ∨ n / 2 ^ i % 2 = 1 := by omega
    have hts : turnI n (i + 1) = turnI n i * 2 + (n / 2 ^ i % 2).toNat := tval_bit _ _ h01
    obtain ⟨y, hy⟩ : ∃ y : Nat, n / 2 ^ i % 2 = y := ⟨(n / 2 ^ i % 2).toNat, by omega⟩
    rw [hy] at hts h01
    rw [Int.toNat_natCast] at hts
    refine X_skip ?_
    refine X_seq ?_
    refine X_block ?_
    refine X_seq ?_
    refine X_reg ?_
    refine XR_a (op_move rfl) rfl rfl ?_
    first | refine XR_a (op_shlC 1 rfl rfl (by decide) (by simp only [inK]; omega)) rfl rfl ?_ | refine XR_a (op_shlI 1 rfl rfl (by decide) (by simp only [inK]; omega)) rfl rfl ?_ | refine XR_a (op_shlN 1 rfl rfl (by decide)) rfl rfl ?_
    refine XR_a (op_move rfl) rfl rfl ?_
    refine XR_a (op_and1 rfl rfl) rfl rfl ?_
    refine XR_as (.int .i64 (y : Int)) (by rw [hy]) ?_
    refine XR_a (op_orS (m := turnI n i * 2) (n := y) rfl rfl (by omega) (by omega)) rfl rfl ?_
    refine XR_as (.int .i64 (turnI n (i + 1) : Nat)) (by rw [or_even _ _ (by omega), hts]) ?_
    refine XR_a (op_assign rfl) rfl rfl ?_
    refine XR_nil ?_
    refine X_reg ?_
    refine XR_a (op_move rfl) rfl rfl ?_
    first | refine XR_a (op_shrC 1 rfl rfl (by decide)) rfl rfl ?_ | refine XR_a (op_shrN 1 rfl rfl (by decide)) rfl rfl ?_
    refine XR_as (.int .i64 (n / 2 ^ (i + 1))) (by rw [ediv_succ n i]; rfl) ?_
    refine XR_a (op_assign rfl) rfl rfl ?_
    refine XR_nil ?_
    refine X_blk ?_
    refine X_reg ?_
    first | refine XR_a (op_addN (n := 1) rfl rfl (by simp only [inK]; omega)) rfl rfl ?_ | refine XR_a (op_addI rfl rfl (by simp only [inK]; omega)) rfl rfl ?_ | refine XR_a (op_add rfl rfl) rfl rfl ?_
    refine XR_a (op_move rfl) rfl rfl ?_
    refine XR_nil ?_
    exact X_again (i + 1) (.cons rfl (.cons rfl (.cons rfl (.cons rfl (.nil _))))) ⟨rfl, by omega⟩ (by omega)
  · refine X_exit rfl ?_
    refine X_seq ?_
    refine X_reg ?_
    refine XR_a (op_move rfl) rfl rfl ?_
    refine XR_a (op_assign rfl) rfl rfl ?_
    refine XR_nil ?_
    refine X_ret (.cons (.tmp rfl) .nil) ?_
    obtain rfl : i = k := by omega
    exact ⟨rfl, rfl⟩
@[reducible] def cC (c : QC) : List Value := [nV c.1, nV c.2.1, nV c.2.2]
@[reducible] def rC (r : QR) : List Value := [nV r.1, nV r.2.1, .bool r.2.2]
def cellsR (R : Nat → QR) (n : Nat) : List Value := (List.range n).flatMap fun m => rC (R m)
theorem cellsR_len (R : Nat → QR) (n : Nat) : (cellsR R n).length = n * 3 := by
  unfold cellsR; rw [flat_length _ 3 (fun _ => rfl), List.length_range]
theorem cellsR_get (R : Nat → QR) {n m j : Nat} (hm : m < n) (hj : j < 3) : (cellsR R n)[m * 3 + j]? = (rC (R m))[j]? := by
  unfold cellsR
  rw [flat_get _ 3 (fun _ => rfl) _ _ _ (by rw [List.length_range]; exact hm) hj, List.getElem_range]
theorem cellsR_congr {R R' : Nat → QR} {n : Nat} (h : ∀ m, m < n → R m = R' m) : cellsR R n = cellsR R' n := by
  unfold cellsR
  rw [List.flatMap_def, List.flatMap_def]
  congr 1
  exact List.map_congr_left fun m hm => by rw [h m (List.mem_range.1 hm)]
theorem cellsR_zero (n : Nat) : (List.replicate n [Value.int .i64 0, .int .i64 0, .bool false]).flatten = cellsR (fun _ => zeroQ) n := by
  unfold cellsR
  rw [List.flatMap_def, List.map_const', List.length_range]; rfl
theorem cellsR_set (R : Nat → QR) {n m : Nat} (hm : m < n) (r : QR) : (cellsR R n).take (m * 3) ++ rC r ++ (cellsR R n).drop (m * 3 + 3) = cellsR (fun i => if i = m then r else R i) n := by
  have hl := cellsR_len R n
  apply List.ext_getElem?
  intro q
  obtain ⟨i, j, hj, rfl⟩ : ∃ i j, j < 3 ∧ q = i * 3 + j := ⟨q / 3, q % 3, Nat.mod_lt _ (by omega), by omega⟩
  rw [List.append_assoc]
  by_cases h1 : i < m
  · rw [List.getElem?_append_left (by rw [List.length_take]; omega), List.getElem?_take, if_pos (by omega), cellsR_get _ (by omega) hj, cellsR_get _ (by omega) hj, if_neg (by omega)]
  · by_cases h2 : i = m
    · subst h2
      rw [List.getElem?_append_right (by rw [List.length_take]; omega), List.length_take, Nat.min_eq_left (by omega), Nat.add_sub_cancel_left, List.getElem?_append_left (by simpa using hj), cellsR_get _ hm hj, if_pos rfl]
    · rw [List.getElem?_append_right (by rw [List.length_take]; omega), List.length_take, Nat.min_eq_left (by omega), List.getElem?_append_right (by simp; omega), List.getElem?_drop]
      rw [show m * 3 + 3 + (i * 3 + j - m * 3 - (rC r).length) = i * 3 + j by simp; omega]
      by_cases h3 : i < n
      · rw [cellsR_get _ h3 hj, cellsR_get _ h3 hj, if_neg h2]
      · rw [List.getElem?_eq_none (by rw [cellsR_len]; omega), List.getElem?_eq_none (by rw [cellsR_len]; omega)]
theorem one_rC (r : QR) : ∀ u ∈ rC r, Value.one u = true := by
  intro u hu
  simp only [rC, List.mem_cons, List.not_mem_nil, or_false] at hu
  rcases hu with rfl | rfl | rfl <;> rfl
theorem one_cC (c : QC) : ∀ u ∈ cC c, Value.one u = true := by
  intro u hu
  simp only [cC, List.mem_cons, List.not_mem_nil, or_false] at hu
  rcases hu with rfl | rfl | rfl <;> rfl
theorem codes_spec {n c : Nat} {A : Option Addr} {li : List Int} {h0 : Heap} (hr : Rd h0 A (li.map iV)) (hl : li.length = n) (hn : n ≤ 17592186044416) :
    Ret Try.prog 110 [.slice A n c] h0 fun v h' =>
      ∃ w, v = retVal [w, .int .i64 (errC li)] ∧ Ext h0 h' ∧ (rightC li → St h0.size h0 h' [row 202 3 w ((qcodes (li.map Int.toNat)).flatMap cC)]) ∧ (¬ rightC li → w = .slice none 0 0) := by
  refine ret_of_X Try.func110 rfl rfl fun w0 hw0 => ?_
  simp only [argE, Nat.zero_add, Nat.reduceAdd]
  refine X_seq ?_
  refine X_reg ?_
  refine XR_a (op_assign rfl) rfl rfl ?_
  refine XR_a (op_assign rfl) rfl rfl ?_
  refine XR_nil ?_
  refine X_seq ?_
  refine X_reg ?_
  refine XR_a (op_move rfl) rfl rfl ?_
  refine XR_wa (opl_call (cvalues_spec hr hl hn) rfl (by kernel_rfl)) rfl rfl rfl ?_
  rintro _ hp ⟨w, rfl, hx, hy, hz⟩
  refine XR_a (op_move rfl) rfl rfl ?_
  refine XR_a (op_extract rfl rfl) rfl rfl ?_
  refine XR_a (op_extract rfl rfl) rfl rfl ?_
  refine XR_a (op_assign rfl) rfl rfl ?_
  refine XR_a (op_assign rfl) rfl rfl ?_
  refine XR_nil ?_
  refine X_seq ?_
  refine X_seq ?_
  refine X_reg ?_
  refine XR_a (op_move rfl) rfl rfl ?_
  refine XR_a (op_neq rfl rfl) rfl rfl ?_
  refine XR_nil ?_
  refine X_if rfl (fun h => ?_) (fun h => ?_)
  · refine X_seq ?_
    refine X_reg ?_
    refine XR_a (op_move rfl) rfl rfl ?_
    refine XR_a (op_assign rfl) rfl rfl ?_
    refine XR_a (op_assign rfl) rfl rfl ?_
    refine XR_nil ?_
    refine X_ret (.cons (.tmp rfl) (.cons (.tmp rfl) .nil)) ?_
    have hR : ¬ rightC li := fun hh => h (errC_zero.2 hh)
    exact ⟨_, rfl, hx, fun hh => absurd hh hR, fun _ => rfl⟩
  · have hR : rightC li := errC_zero.1 (Decidable.not_not.1 h)
    have st := hy hR
    have hok := hR.ok
    have hr2 : Rd h0 A ((li.map Int.toNat).map nV) := by rw [nV_iV, toNat_map fun x hx => (hR.2.1.2 x hx).1]; exact hr
    have hl2 : (li.map Int.toNat).length = n := by rw [List.length_map]; exact hl
    obtain ⟨ls, hl3⟩ : ∃ ls, li.map Int.toNat = ls := ⟨_, rfl⟩
    rw [hl3] at hok hr2 hl2 st ⊢
    have h320 := hok.2.1
    have h1n := hok.1
    refine X_skip ?_
    refine X_seq ?_
    refine X_reg ?_
    refine XR_a (op_assign rfl) rfl rfl ?_
    refine XR_nil ?_
    refine X_seq ?_
    refine X_seq ?_
    refine X_reg ?_
    refine XR_a (op_move rfl) rfl rfl ?_
    refine XR_a (op_len rfl rfl rfl) rfl rfl ?_
    refine XR_a (op_move rfl) rfl rfl ?_
    refine XR_nil ?_
    refine X_block ?_
    replace st := (st.nilrow 202 3).perm (List.Perm.swap _ _ _)
    obtain ⟨g, o, rfl, hc⟩ := hr2.at_ (by rw [List.length_map]; omega)
    refine X_loop (fun s => n - s.1) (fun s => [(0, .slice (some ⟨g, o, none⟩) n c), (4, w), (6, s.2), (17, .slice (some ⟨g, o, none⟩) n c), (18, .int .i64 (n : Nat)), (19, .int .i64 (s.1 : Nat))])
      (fun (s : Nat × Value) hp => St h0.size h0 hp [row 3 1 w ((vals ls).map nV), row 202 3 s.2 ((codesTo ls s.1).flatMap cC)] ∧ s.1 ≤ n)
      (0, .slice none 0 0) (.cons rfl (.cons rfl (.cons rfl (.cons rfl (.cons rfl (.cons rfl (.nil _))))))) ⟨st, by simp⟩ ?_
    clear st hy hx
    rintro ⟨i, w2⟩ hp ⟨st, hi⟩
    simp only at st hi ⊢
    refine X_seq ?_
    refine X_reg ?_
    refine XR_a (op_lss rfl rfl) rfl rfl ?_
    refine XR_nil ?_
    refine X_seq ?_
    refine X_if rfl (fun h => ?_) (fun h => ?_)
    · have hlt : i < ls.length := by omega
      have hci := cellH_ext (a := ⟨g, o + i, none⟩) st.low (hc i (nV ls[i]) (by simp [hlt]))
      have hcs := codesTo_succ ls i
      have hcl := codesTo_len ls i
      have h15 := hok.2.2.1 ls[i] (List.getElem_mem hlt)
      refine X_skip ?_
      refine X_seq ?_
      refine X_block ?_
      refine X_seq ?_
      refine X_reg ?_
      refine XR_a (op_move rfl) rfl rfl ?_
      first | refine XR_a (op_index1 rfl rfl rfl (by omega)) rfl rfl ?_ | refine XR_a (op_index rfl rfl rfl (by omega)) rfl rfl ?_
      refine XR_a (op_ld (hci) rfl rfl rfl) rfl rfl ?_
      refine XR_a (op_assign rfl) rfl rfl ?_
      refine XR_a (op_assign rfl) rfl rfl ?_
      refine XR_nil ?_
      refine X_seq ?_
      refine X_reg ?_
      refine XR_a (op_move rfl) rfl rfl ?_
      refine XR_a (op_gtr rfl rfl) rfl rfl ?_
      refine XR_nil ?_
      refine X_if rfl (fun h => ?_) (fun h => ?_)
      · have h0 : ls[i] ≠ 0 := by omega
        have e : codeOf ls i = [(i, turnV (val ls i) ls[i], ls[i])] := by unfold codeOf; rw [getD_get hlt, if_neg h0]
        rw [e] at hcs
        have hv := val_lt hok hlt h0
        have hv2 := fst_bd hok h15
        have hvi : (vals ls)[i]? = some (val ls i) := by simp [vals, hlt]
        obtain ⟨A7, n7, c7, rfl, hlen7, _, _, hrd7⟩ := st.row 0 rfl
        rw [List.length_map, vals_length] at hlen7
        obtain ⟨g7, o7, rfl, hc7⟩ := hrd7.at_ (by rw [List.length_map, vals_length]; omega)
        have hwd : wd 15 (ls[i] : Int) = ls[i] := by unfold wd; omega
        refine X_reg ?_
        refine XR_a (op_move rfl) rfl rfl ?_
        refine XR_a (op_move rfl) rfl rfl ?_
        refine XR_a (op_move rfl) rfl rfl ?_
        refine XR_a (op_move rfl) rfl rfl ?_
        first | refine XR_a (op_index1 rfl rfl rfl (by omega)) rfl rfl ?_ | refine XR_a (op_index rfl rfl rfl (by omega)) rfl rfl ?_
        refine XR_a (op_ld (hc7 i _ (map_get_nV hvi)) rfl rfl rfl) rfl rfl ?_
        refine XR_a (op_move rfl) rfl rfl ?_
        refine XR_wa (opl_call (turn_spec (val ls i : Int) (ls[i] : Int) _ (by simp only [inK]; omega)) rfl (by kernel_rfl)) rfl rfl rfl ?_
        rintro _ _ ⟨rfl, rfl⟩
        rw [hwd, show turnI (val ls i : Int) ls[i] = turnV (val ls i) ls[i] from rfl]
        refine XR_a (op_move rfl) rfl rfl ?_
        refine XR_a (op_build (ps := [(0, nV i), (1, nV (turnV (val ls i) ls[i])), (2, nV ls[i])]) (cs := (cC (i, turnV (val ls i) ls[i], ls[i])).toArray) rfl rfl) rfl rfl ?_
        refine XR_wa (opl_varA (us := cC (i, turnV (val ls i) ls[i], ls[i])) rfl rfl rfl rfl (by kernel_rfl)) rfl rfl rfl ?_
        rintro _ hp ⟨A, rfl, hx, hrd⟩
        replace st := st.ext hx
        refine XR_wa (opl_append st 1 rfl (hrd) (rfl) (one_cC _) (by rw [flat_length _ 3 (fun _ => rfl)]; simp; omega) rfl rfl rfl rfl rfl rfl rfl) rfl rfl rfl fun v hp st => ?_
        simp only [List.set_cons_zero, List.set_cons_succ] at st
        have e2 : (codesTo ls i).flatMap cC ++ cC (i, turnV (val ls i) ls[i], ls[i]) = (codesTo ls (i + 1)).flatMap cC := by rw [hcs, List.flatMap_append]; simp
        rw [e2] at st
        refine XR_a (op_assign rfl) rfl rfl ?_
        refine XR_nil ?_
        refine X_blk ?_
        refine X_reg ?_
        first | refine XR_a (op_addN (n := 1) rfl rfl (by simp only [inK]; omega)) rfl rfl ?_ | refine XR_a (op_addI rfl rfl (by simp only [inK]; omega)) rfl rfl ?_ | refine XR_a (op_add rfl rfl) rfl rfl ?_
        refine XR_a (op_move rfl) rfl rfl ?_
        refine XR_nil ?_
        exact X_again (i + 1, _) (.cons rfl (.cons rfl (.cons rfl (.cons rfl (.cons rfl (.cons rfl (.nil _))))))) ⟨st, by simp only; omega⟩ (by simp only; omega)
      · refine X_skip ?_
        refine X_blk ?_
        refine X_reg ?_
        first | refine XR_a (op_addN (n := 1) rfl rfl (by simp only [inK]; omega)) rfl rfl ?_ | refine XR_a (op_addI rfl rfl (by simp only [inK]; omega)) rfl rfl ?_ | refine XR_a (op_add rfl rfl) rfl rfl ?_
        refine XR_a (op_move rfl) rfl rfl ?_
        refine XR_nil ?_
        have h0 : ls[i] = 0 := by omega
        have e : codeOf ls i = [] := by unfold codeOf; rw [getD_get hlt, if_pos h0]
        rw [e, List.append_nil] at hcs
        rw [← hcs] at st
        exact X_again (i + 1, w2) (.cons rfl (.cons rfl (.cons rfl (.cons rfl (.cons rfl (.cons rfl (.nil _))))))) ⟨st, by simp only; omega⟩ (by simp only; omega)
    · refine X_exit rfl ?_
      refine X_seq ?_
      refine X_reg ?_
      refine XR_a (op_move rfl) rfl rfl ?_
      refine XR_a (op_assign rfl) rfl rfl ?_
      refine XR_a (op_assign rfl) rfl rfl ?_
      refine XR_nil ?_
      refine X_ret (.cons (.tmp rfl) (.cons (.tmp rfl) .nil)) ?_
      obtain rfl : i = n := by omega
      refine ⟨_, by rw [errC_zero.2 hR], st.low, fun _ => ?_, fun hh => absurd hR hh⟩
      unfold qcodes
      rw [hl2]
      exact st.tail
end Go.Bn
end

section
set_option linter.unusedVariables false
set_option linter.unusedSimpArgs false
set_option maxHeartbeats 4000000
set_option maxRecDepth 20000
namespace Go.Bn
open Go Proofs
theorem fill_spec {B gb n cap past : Nat} {R : Nat → QR} {c : QC} {F : List Res} {h0 : Heap} (st : St B h0 h0 (row 205 3 (.slice (some ⟨gb, 0, none⟩) n cap) (cellsR R n) :: F)) (hn : n ≤ 32768) (hc : c.2.2 ≤ 15) (hp : past ≤ c.2.2) (hb : c.2.1 < 2 ^ c.2.2) :
    Ret Try.prog 112 [.slice (some ⟨gb, 0, none⟩) n cap, .agg (cC c).toArray, .int .i64 (past : Int)] h0
      fun v h' => v = .tuple #[] ∧ St B h0 h' (row 205 3 (.slice (some ⟨gb, 0, none⟩) n cap) (cellsR (fun m => if m % 2 ^ (c.2.2 - past) = c.2.1 / 2 ^ past then symQ c else R m) n) :: F) := by
  obtain ⟨s, b, k⟩ := c
  simp only at hc hp hb ⊢
  have hbl : b / 2 ^ past < 2 ^ (k - past) := by
    refine (Nat.div_lt_iff_lt_mul (Nat.pow_pos (by omega))).2 ?_
    rw [← Nat.pow_add, show k - past + past = k by omega]; exact hb
  have hs2 : 2 ^ (k - past) ≤ 32768 := Nat.pow_le_pow_right (n := 2) (by omega) (show k - past ≤ 15 by omega)
  have hb2 : 2 ^ k ≤ 32768 := Nat.pow_le_pow_right (n := 2) (by omega) hc
  obtain ⟨b0, hb0⟩ : ∃ b0, b / 2 ^ past = b0 := ⟨_, rfl⟩
  obtain ⟨stp, hstp⟩ : ∃ stp, 2 ^ (k - past) = stp := ⟨_, rfl⟩
  rw [hb0, hstp] at hbl ⊢
  rw [hstp] at hs2
  have hstp0 : 0 < stp := by rw [← hstp]; exact Nat.pow_pos (by omega)
  refine ret_of_X Try.func112 rfl rfl fun w0 hw0 => ?_
  simp only [argE, Nat.zero_add, Nat.reduceAdd]
  refine X_seq ?_
  refine X_reg ?_
  refine XR_wa (opl_bx rfl rfl) rfl rfl rfl ?_
  rintro _ hp ⟨pc, rfl, hnew⟩
  replace st := st.new hnew
  refine XR_nil ?_
  refine X_seq ?_
  refine X_reg ?_
  first | refine XR_a (op_field0 rfl rfl) rfl rfl ?_ | refine XR_a (op_fieldn rfl rfl) rfl rfl ?_
  refine XR_a (op_ld (st.cell 0 (i := 2) rfl rfl) rfl rfl rfl) rfl rfl ?_
  refine XR_a (op_move rfl) rfl rfl ?_
  refine XR_a (op_subN (m := k) (n := past) rfl rfl (by omega) (by simp only [inK]; omega)) rfl rfl ?_
  refine XR_a (op_shlC (m := 1) (k - past) rfl rfl (by simp only [IntKind.bits]; omega) (by rw [hstp]; simp only [inK]; omega)) rfl rfl ?_
  refine XR_as (.int .i64 (stp : Nat)) (by rw [Nat.one_mul, hstp]) ?_
  refine XR_a (op_assign rfl) rfl rfl ?_
  refine XR_nil ?_
  refine X_seq ?_
  refine X_reg ?_
  first | refine XR_a (op_field0 rfl rfl) rfl rfl ?_ | refine XR_a (op_fieldn rfl rfl) rfl rfl ?_
  refine XR_a (op_ld (st.cell 0 (i := 1) rfl rfl) rfl rfl rfl) rfl rfl ?_
  refine XR_a (op_move rfl) rfl rfl ?_
  refine XR_a (op_shrC (m := b) past rfl rfl (by simp only [IntKind.bits]; omega)) rfl rfl ?_
  refine XR_as (.int .i64 (b0 : Nat)) (by rw [hb0]) ?_
  refine XR_a (op_assign rfl) rfl rfl ?_
  refine XR_nil ?_
  refine X_block ?_
  refine X_loop (fun m => 65536 - m) (fun m => [(0, .slice (some ⟨gb, 0, none⟩) n cap), (4, .pointer (some ⟨pc, 0, none⟩)), (6, .int .i64 (stp : Nat)), (7, .int .i64 (m : Nat))])
    (fun (m : Nat) hp => St B h0 hp (pt pc 202 (cC (s, b, k)) :: row 205 3 (.slice (some ⟨gb, 0, none⟩) n cap) (cellsR (fun i => if i < m ∧ i % stp = b0 then symQ (s, b, k) else R i) n) :: F) ∧ m % stp = b0 ∧ m ≤ 65535)
    b0 (.cons rfl (.cons rfl (.cons rfl (.cons rfl (.nil _))))) ⟨?_, Nat.mod_eq_of_lt hbl, by omega⟩ ?_
  · have e : cellsR (fun i => if i < b0 ∧ i % stp = b0 then symQ (s, b, k) else R i) n = cellsR R n := cellsR_congr fun i _ => if_neg fun hh => by have := Nat.mod_le i stp; omega
    rw [e]; exact st
  clear st hnew
  rintro m hp ⟨st, hm, hm2⟩
  refine X_seq ?_
  refine X_seq ?_
  refine X_reg ?_
  refine XR_a (op_move rfl) rfl rfl ?_
  refine XR_a (op_move rfl) rfl rfl ?_
  refine XR_a (op_len rfl rfl rfl) rfl rfl ?_
  refine XR_a (op_lss rfl rfl) rfl rfl ?_
  refine XR_nil ?_
  refine X_if rfl (fun h => ?_) (fun h => ?_)
  · have hcl := cellsR_len (fun i => if i < m ∧ i % stp = b0 then symQ (s, b, k) else R i) n
    refine X_skip ?_
    refine X_seq ?_
    refine X_block ?_
    refine X_reg ?_
    refine XR_a (op_move rfl) rfl rfl ?_
    refine XR_a (op_move rfl) rfl rfl ?_
    first | refine XR_a (op_field0 rfl rfl) rfl rfl ?_ | refine XR_a (op_fieldn rfl rfl) rfl rfl ?_
    refine XR_a (op_ld (st.cell 0 (i := 0) rfl rfl) rfl rfl rfl) rfl rfl ?_
    first | refine XR_a (op_field0 rfl rfl) rfl rfl ?_ | refine XR_a (op_fieldn rfl rfl) rfl rfl ?_
    refine XR_a (op_ld (st.cell 0 (i := 2) rfl rfl) rfl rfl rfl) rfl rfl ?_
    refine XR_a (op_build (ps := [(0, nV s), (1, nV k)]) (cs := (rC (symQ (s, b, k))).toArray) rfl rfl) rfl rfl ?_
    refine XR_a (op_index (i := m) rfl rfl rfl (by omega)) rfl rfl ?_
    refine XR_wn (opl_store_rows (us := rC (symQ (s, b, k))) (o := m * 3) st 1 rfl (congrArg (fun x => some (Value.pointer (some ⟨gb, x, none⟩))) (Nat.zero_add _)) rfl rfl rfl (one_rC _) (by rw [hcl]; simp; omega)) rfl rfl fun _ hp st => ?_
    simp only [List.set_cons_zero, List.set_cons_succ] at st
    rw [show (rC (symQ (s, b, k))).length = 3 from rfl, cellsR_set _ (by omega)] at st
    refine XR_nil ?_
    refine X_blk ?_
    refine X_reg ?_
    refine XR_a (op_move rfl) rfl rfl ?_
    refine XR_a (op_move rfl) rfl rfl ?_
    first | refine XR_a (op_addN rfl rfl (by simp only [inK]; omega)) rfl rfl ?_ | refine XR_a (op_addI rfl rfl (by simp only [inK]; omega)) rfl rfl ?_ | refine XR_a (op_add rfl rfl) rfl rfl ?_
    refine XR_a (op_assign rfl) rfl rfl ?_
    refine XR_nil ?_
    refine X_again (m + stp) (.cons rfl (.cons rfl (.cons rfl (.cons rfl (.nil _))))) ⟨?_, by rw [Nat.add_mod_right]; exact hm, by omega⟩ (by omega)
    have e : cellsR (fun i => if i = m then symQ (s, b, k) else if i < m ∧ i % stp = b0 then symQ (s, b, k) else R i) n = cellsR (fun i => if i < m + stp ∧ i % stp = b0 then symQ (s, b, k) else R i) n := by
      refine cellsR_congr fun i _ => ?_
      by_cases h1 : i = m
      · subst h1; rw [if_pos rfl, if_pos ⟨by omega, hm⟩]
      · rw [if_neg h1]
        by_cases h2 : i < m ∧ i % stp = b0
        · rw [if_pos h2, if_pos ⟨by omega, h2.2⟩]
        · rw [if_neg h2, if_neg]
          rintro ⟨h3, h4⟩
          rcases Nat.lt_or_ge i m with h5 | h5
          · exact h2 ⟨h5, h4⟩
          · have h6 : (i - m) % stp = 0 := by
              have e1 := Nat.div_add_mod i stp
              have e2 := Nat.div_add_mod m stp
              rw [h4] at e1; rw [hm] at e2
              have e3 : i - m = stp * (i / stp - m / stp) := by rw [Nat.mul_sub]; omega
              rw [e3]; exact Nat.mul_mod_right _ _
            rw [Nat.mod_eq_of_lt (by omega)] at h6
            omega
    rw [← e]; exact st
  · refine X_exit rfl ?_
    refine X_end .nil ?_
    refine ⟨rfl, ?_⟩
    have e : cellsR (fun i => if i < m ∧ i % stp = b0 then symQ (s, b, k) else R i) n = cellsR (fun i => if i % stp = b0 then symQ (s, b, k) else R i) n := by
      refine cellsR_congr fun i hi => ?_
      by_cases h1 : i % stp = b0
      · rw [if_pos h1, if_pos ⟨by omega, h1⟩]
      · rw [if_neg h1, if_neg (fun hh => h1 hh.2)]
    rw [e] at st
    exact st.tail
@[reducible] def tabC (w : Nat) (vr : Value) (pm : Nat) (vc : Value) (sz : Nat) : List Value := [nV w, vr, .map (some pm), vc, nV sz]
theorem and_low (x w : Nat) : x &&& (2 ^ w - 1) = x % 2 ^ w := Nat.and_two_pow_sub_one_eq_mod x w
theorem deepen_spec {B p pm w m L sz gr nr cr : Nat} {vc : Value} {Q : List QC} {R : Nat → QR} {l : List (Int × Value)} {F : List Res} {h0 : Heap}
    (st : St B h0 h0 (pt p 200 (tabC w (.slice (some ⟨gr, 0, none⟩) nr cr) pm vc sz) :: row 205 3 (.slice (some ⟨gr, 0, none⟩) nr cr) (cellsR R nr) :: mapR pm l :: row 202 3 vc (Q.flatMap cC) :: F))
    (hQ : QOk Q) (hw : 1 ≤ w ∧ w ≤ 15) (hm : m < 2 ^ w) (hL : w < L ∧ L ≤ 15) (hge : ∀ c ∈ Q, longQ w m c = true → c.2.2 ≤ L) (hnr : nr = 2 ^ w) (hfresh : ∀ q ∈ l, q.1 ≠ (m : Int)) (hsz : sz ≤ 4294967296) (hql : Q.length ≤ 1000) :
    Ret Try.prog 113 [.pointer (some ⟨p, 0, none⟩), .int .i64 (m : Int), .agg (rC (0, L, true)).toArray] h0
      fun v h' => v = .tuple #[] ∧ ∃ vm, St B h0 h' (row 205 3 vm (cellsR (moreQ Q w m) (2 ^ (L - w))) :: pt p 200 (tabC w (.slice (some ⟨gr, 0, none⟩) nr cr) pm vc (sz + 2 ^ (L - w))) :: row 205 3 (.slice (some ⟨gr, 0, none⟩) nr cr) (cellsR R nr) :: mapR pm (l ++ [((m : Int), vm)]) :: row 202 3 vc (Q.flatMap cC) :: F) := by
  have hpL : 2 ^ (L - w) ≤ 32768 := Nat.pow_le_pow_right (n := 2) (by omega) (show L - w ≤ 15 by omega)
  have hpw : 2 ^ w ≤ 32768 := Nat.pow_le_pow_right (n := 2) (by omega) hw.2
  have hpw0 : 0 < 2 ^ w := Nat.pow_pos (by omega)
  have hpL0 : 0 < 2 ^ (L - w) := Nat.pow_pos (by omega)
  obtain ⟨Ac, nc, cc, rfl, hlenc, _, _, _⟩ := st.row 3 rfl
  rw [flat_length _ 3 (fun _ => rfl)] at hlenc
  refine ret_of_X Try.func113 rfl rfl fun w0 hw0 => ?_
  simp only [argE, Nat.zero_add, Nat.reduceAdd]
  refine X_seq ?_
  refine X_reg ?_
  refine XR_wa (opl_bx rfl rfl) rfl rfl rfl ?_
  rintro _ hp ⟨pc, rfl, hnew⟩
  replace st := st.new hnew
  refine XR_nil ?_
  refine X_seq ?_
  refine X_draw byKind (by kernel_rfl) (by kernel_rfl) ?_
  first | refine XR_a (op_field0 rfl rfl) rfl rfl ?_ | refine XR_a (op_fieldn rfl rfl) rfl rfl ?_
  refine XR_a (op_ld (st.cell 0 (i := 1) rfl rfl) rfl rfl rfl) rfl rfl ?_
  refine XR_a (op_move rfl) rfl rfl ?_
  refine XR_a (op_nilCheck rfl) rfl rfl ?_
  first | refine XR_a (op_field0 rfl rfl) rfl rfl ?_ | refine XR_a (op_fieldn rfl rfl) rfl rfl ?_
  refine XR_a (op_ld (st.cell 1 (i := 0) rfl rfl) rfl rfl rfl) rfl rfl ?_
  refine XR_a (op_subN (m := L) (n := w) rfl rfl (by omega) (by simp only [inK]; omega)) rfl rfl ?_
  refine XR_a (op_shlC (m := 1) (L - w) rfl rfl (by simp only [IntKind.bits]; omega) (by simp only [inK]; omega)) rfl rfl ?_
  refine XR_as (.int .i64 (2 ^ (L - w) : Nat)) (by rw [Nat.one_mul]) ?_
  refine XR_ga (opl_mkS (n := 2 ^ (L - w)) (by omega) rfl rfl rfl rfl rfl) rfl rfl rfl (fun _ _ e => e.1) ?_
  rintro vm hp hnew
  replace st := st.new hnew
  replace st := (id st : St B h0 hp (row 205 3 vm (List.replicate (2 ^ (L - w)) [Value.int .i64 0, .int .i64 0, .bool false]).flatten :: _))
  refine XR_a (op_assign rfl) rfl rfl ?_
  refine XR_nil ?_
  refine X_seq ?_
  refine X_seq ?_
  refine X_reg ?_
  refine XR_a (op_move rfl) rfl rfl ?_
  refine XR_a (op_nilCheck rfl) rfl rfl ?_
  first | refine XR_a (op_field0 rfl rfl) rfl rfl ?_ | refine XR_a (op_fieldn rfl rfl) rfl rfl ?_
  refine XR_a (op_ld (st.cell 2 (i := 3) rfl rfl) rfl rfl rfl) rfl rfl ?_
  refine XR_a (op_len rfl rfl rfl) rfl rfl ?_
  refine XR_a (op_move rfl) rfl rfl ?_
  refine XR_nil ?_
  refine X_block ?_
  rw [cellsR_zero] at st
  obtain ⟨gm, nm, cm, rfl, hlenm, _, _, _⟩ := st.row0 0 rfl (by rw [cellsR_len]; omega)
  rw [cellsR_len] at hlenm
  obtain rfl : nm = 2 ^ (L - w) := by omega
  have hq0 : cellsR (fun _ => zeroQ) (2 ^ (L - w)) = cellsR (moreQ (Q.take 0) w m) (2 ^ (L - w)) := rfl
  rw [hq0] at st
  refine X_loop (fun i => nc - i) (fun i => [(0, .pointer (some ⟨p, 0, none⟩)), (1, .int .i64 (m : Int)), (5, .pointer (some ⟨pc, 0, none⟩)), (6, .slice (some ⟨gm, 0, none⟩) (2 ^ (L - w)) cm), (21, .slice Ac nc cc), (22, .int .i64 (nc : Nat)), (23, .int .i64 (i : Nat))])
    (fun (i : Nat) hp => St B h0 hp (row 205 3 (.slice (some ⟨gm, 0, none⟩) (2 ^ (L - w)) cm) (cellsR (moreQ (Q.take i) w m) (2 ^ (L - w))) :: pt pc 205 (rC (0, L, true)) :: pt p 200 (tabC w (.slice (some ⟨gr, 0, none⟩) nr cr) pm (.slice Ac nc cc) sz) :: row 205 3 (.slice (some ⟨gr, 0, none⟩) nr cr) (cellsR R nr) :: mapR pm l :: row 202 3 (.slice Ac nc cc) (Q.flatMap cC) :: F) ∧ i ≤ nc)
    0 (.cons rfl (.cons rfl (.cons rfl (.cons rfl (.cons rfl (.cons rfl (.cons rfl (.nil _)))))))) ⟨st, by omega⟩ ?_
  clear st hnew
  rintro i hp ⟨st, hi⟩
  refine X_seq ?_
  refine X_reg ?_
  refine XR_a (op_lss rfl rfl) rfl rfl ?_
  refine XR_nil ?_
  refine X_seq ?_
  refine X_if rfl (fun h => ?_) (fun h => ?_)
  · have hilt : i < Q.length := by omega
    obtain ⟨gc, oc, rfl, hcc⟩ := Rd.flat cC 3 (st.rdS 5 rfl).2 (fun _ => rfl) (by omega) (by omega)
    have hQc := hQ.len Q[i] (List.getElem_mem hilt)
    have hQb := hQ.bits Q[i] (List.getElem_mem hilt)
    have htk := List.take_succ_eq_append_getElem hilt
    have hQt : QOk (Q.take i ++ [Q[i]]) := by rw [← htk]; exact hQ.sub fun c hc => List.mem_of_mem_take hc
    have hcell := hcc i hilt
    have hgei := hge Q[i] (List.getElem_mem hilt)
    obtain ⟨c, hce⟩ : ∃ c, Q[i] = c := ⟨_, rfl⟩
    rw [hce] at hQc hQb htk hQt hcell hgei
    have hb15 : c.2.1 < 32768 := Nat.lt_of_lt_of_le hQb (Nat.pow_le_pow_right (n := 2) (by omega) hQc.2)
    refine X_skip ?_
    refine X_seq ?_
    refine X_block ?_
    refine X_seq ?_
    refine X_reg ?_
    refine XR_a (op_index (i := i) rfl rfl rfl (by omega)) rfl rfl ?_
    refine XR_a (op_ldA (vs := cC c) (fun j u hu => hcell j u hu) rfl rfl rfl rfl) rfl rfl ?_
    refine XR_wa (opl_new rfl) rfl rfl rfl ?_
    rintro _ hp ⟨px, rfl, hnew⟩
    replace st := st.new hnew
    refine XR_wn (opl_store_whole st 0 rfl rfl rfl rfl rfl (one_cC c) rfl) rfl rfl fun _ hp st => ?_
    simp only [List.set_cons_zero, List.set_cons_succ] at st
    refine XR_nil ?_
    refine X_seq ?_
    refine X_draw byKind (by kernel_rfl) (by kernel_rfl) ?_
    first | refine XR_a (op_field0 rfl rfl) rfl rfl ?_ | refine XR_a (op_fieldn rfl rfl) rfl rfl ?_
    refine XR_a (op_ld (st.cell 0 (i := 2) rfl rfl) rfl rfl rfl) rfl rfl ?_
    refine XR_a (op_move rfl) rfl rfl ?_
    refine XR_a (op_nilCheck rfl) rfl rfl ?_
    first | refine XR_a (op_field0 rfl rfl) rfl rfl ?_ | refine XR_a (op_fieldn rfl rfl) rfl rfl ?_
    refine XR_a (op_ld (st.cell 3 (i := 0) rfl rfl) rfl rfl rfl) rfl rfl ?_
    refine XR_a (op_gtr rfl rfl) rfl rfl ?_
    refine XR_a (op_move rfl) rfl rfl ?_
    refine XR_if 34 rfl (fun h => ?_) (fun h => ?_)
    · first | refine XR_a (op_field0 rfl rfl) rfl rfl ?_ | refine XR_a (op_fieldn rfl rfl) rfl rfl ?_
      refine XR_a (op_ld (st.cell 0 (i := 1) rfl rfl) rfl rfl rfl) rfl rfl ?_
      refine XR_a (op_move rfl) rfl rfl ?_
      refine XR_a (op_nilCheck rfl) rfl rfl ?_
      first | refine XR_a (op_field0 rfl rfl) rfl rfl ?_ | refine XR_a (op_fieldn rfl rfl) rfl rfl ?_
      refine XR_a (op_ld (st.cell 3 (i := 1) rfl rfl) rfl rfl rfl) rfl rfl ?_
      refine XR_a (op_len rfl rfl rfl) rfl rfl ?_
      refine XR_a (op_subN (m := nr) (n := 1) rfl rfl (by omega) (by simp only [inK]; omega)) rfl rfl ?_
      refine XR_a (op_andS (m := c.2.1) (n := nr - 1) rfl rfl (by simp only [inK]; omega) (by simp only [inK]; omega)) rfl rfl ?_
      refine XR_as (.int .i64 (c.2.1 % 2 ^ w : Nat)) (by rw [hnr, and_low]) ?_
      refine XR_a (op_move rfl) rfl rfl ?_
      refine XR_a (op_eql rfl rfl) rfl rfl ?_
      refine XR_a (op_pick_t rfl rfl) rfl rfl ?_
      refine XR_nil ?_
      refine X_if rfl (fun h => ?_) (fun h => ?_)
      · have hlq : longQ w m c = true := longQ_iff.2 ⟨by omega, by omega⟩
        have hstep : cellsR (fun j => if j % 2 ^ (c.2.2 - w) = c.2.1 / 2 ^ w then symQ c else moreQ (Q.take i) w m j) (2 ^ (L - w)) = cellsR (moreQ (Q.take (i + 1)) w m) (2 ^ (L - w)) := cellsR_congr fun j _ => by rw [htk, moreQ_long hQt hm hlq]
        refine X_draw byKind (by kernel_rfl) (by kernel_rfl) ?_
        refine XR_a (op_move rfl) rfl rfl ?_
        refine XR_a (op_ldA (vs := cC c) (st.cells 0 rfl) rfl rfl rfl rfl) rfl rfl ?_
        refine XR_a (op_move rfl) rfl rfl ?_
        refine XR_a (op_nilCheck rfl) rfl rfl ?_
        first | refine XR_a (op_field0 rfl rfl) rfl rfl ?_ | refine XR_a (op_fieldn rfl rfl) rfl rfl ?_
        refine XR_a (op_ld (st.cell 3 (i := 0) rfl rfl) rfl rfl rfl) rfl rfl ?_
        refine XR_wa (opl_call (fill_spec (c := c) (past := w) (st.perm (List.Perm.swap _ _ _)).here hpL hQc.2 (by omega) hQb) rfl (by kernel_rfl)) rfl rfl rfl ?_
        rintro _ hp ⟨_, st2⟩
        replace st := ((st.perm (List.Perm.swap _ _ _)).trans st2).perm (List.Perm.swap _ _ _)
        rw [hstep] at st
        refine XR_nil ?_
        refine X_blk ?_
        refine X_reg ?_
        first | refine XR_a (op_addN (n := 1) rfl rfl (by simp only [inK]; omega)) rfl rfl ?_ | refine XR_a (op_addI rfl rfl (by simp only [inK]; omega)) rfl rfl ?_ | refine XR_a (op_add rfl rfl) rfl rfl ?_
        refine XR_a (op_move rfl) rfl rfl ?_
        refine XR_nil ?_
        exact X_again (i + 1) (.cons rfl (.cons rfl (.cons rfl (.cons rfl (.cons rfl (.cons rfl (.cons rfl (.nil _)))))))) ⟨st.tail, by omega⟩ (by omega)
      · refine X_skip ?_
        refine X_blk ?_
        refine X_reg ?_
        first | refine XR_a (op_addN (n := 1) rfl rfl (by simp only [inK]; omega)) rfl rfl ?_ | refine XR_a (op_addI rfl rfl (by simp only [inK]; omega)) rfl rfl ?_ | refine XR_a (op_add rfl rfl) rfl rfl ?_
        refine XR_a (op_move rfl) rfl rfl ?_
        refine XR_nil ?_
        have hlq : longQ w m c = false := by
          cases hh : longQ w m c with
          | false => rfl
          | true => have := (longQ_iff.1 hh).2; omega
        have hstep : cellsR (moreQ (Q.take i) w m) (2 ^ (L - w)) = cellsR (moreQ (Q.take (i + 1)) w m) (2 ^ (L - w)) := cellsR_congr fun j _ => by rw [htk, moreQ_skip hlq]
        rw [hstep] at st
        exact X_again (i + 1) (.cons rfl (.cons rfl (.cons rfl (.cons rfl (.cons rfl (.cons rfl (.cons rfl (.nil _)))))))) ⟨st.tail, by omega⟩ (by omega)
    · refine XR_no rfl rfl ?_
      refine XR_no rfl rfl ?_
      refine XR_no rfl rfl ?_
      refine XR_no rfl rfl ?_
      refine XR_no rfl rfl ?_
      refine XR_no rfl rfl ?_
      refine XR_no rfl rfl ?_
      refine XR_no rfl rfl ?_
      refine XR_no rfl rfl ?_
      refine XR_no rfl rfl ?_
      refine XR_no rfl rfl ?_
      refine XR_a (op_pick_f rfl rfl) rfl rfl ?_
      refine XR_nil ?_
      refine X_else rfl ?_
      refine X_skip ?_
      refine X_blk ?_
      refine X_reg ?_
      first | refine XR_a (op_addN (n := 1) rfl rfl (by simp only [inK]; omega)) rfl rfl ?_ | refine XR_a (op_addI rfl rfl (by simp only [inK]; omega)) rfl rfl ?_ | refine XR_a (op_add rfl rfl) rfl rfl ?_
      refine XR_a (op_move rfl) rfl rfl ?_
      refine XR_nil ?_
      have hlq : longQ w m c = false := by
        cases hh : longQ w m c with
        | false => rfl
        | true => have := (longQ_iff.1 hh).1; omega
      have hstep : cellsR (moreQ (Q.take i) w m) (2 ^ (L - w)) = cellsR (moreQ (Q.take (i + 1)) w m) (2 ^ (L - w)) := cellsR_congr fun j _ => by rw [htk, moreQ_skip hlq]
      rw [hstep] at st
      exact X_again (i + 1) (.cons rfl (.cons rfl (.cons rfl (.cons rfl (.cons rfl (.cons rfl (.cons rfl (.nil _)))))))) ⟨st.tail, by omega⟩ (by omega)
  · obtain rfl : i = nc := by omega
    rw [List.take_of_length_le (by omega)] at st
    refine X_exit rfl ?_
    refine X_seq ?_
    refine X_reg ?_
    refine XR_a (op_move rfl) rfl rfl ?_
    refine XR_a (op_nilCheck rfl) rfl rfl ?_
    first | refine XR_a (op_field0 rfl rfl) rfl rfl ?_ | refine XR_a (op_fieldn rfl rfl) rfl rfl ?_
    refine XR_a (op_ld (st.cell 2 (i := 2) rfl rfl) rfl rfl rfl) rfl rfl ?_
    refine XR_a (op_move rfl) rfl rfl ?_
    refine XR_a (op_move rfl) rfl rfl ?_
    refine XR_wn (opl_mapSet st 4 rfl rfl rfl rfl rfl hfresh) rfl rfl fun _ hp st => ?_
    simp only [List.set_cons_zero, List.set_cons_succ] at st
    refine XR_nil ?_
    refine X_reg ?_
    refine XR_a (op_move rfl) rfl rfl ?_
    refine XR_a (op_nilCheck rfl) rfl rfl ?_
    first | refine XR_a (op_field0 rfl rfl) rfl rfl ?_ | refine XR_a (op_fieldn rfl rfl) rfl rfl ?_
    refine XR_a (op_ld (st.cell 2 (i := 4) rfl rfl) rfl rfl rfl) rfl rfl ?_
    refine XR_a (op_move rfl) rfl rfl ?_
    refine XR_a (op_len rfl rfl rfl) rfl rfl ?_
    refine XR_a (op_addN (m := sz) (n := 2 ^ (L - w)) rfl rfl (by simp only [inK]; omega)) rfl rfl ?_
    refine XR_a (op_nilCheck rfl) rfl rfl ?_
    first | refine XR_a (op_field0 rfl rfl) rfl rfl ?_ | refine XR_a (op_fieldn rfl rfl) rfl rfl ?_
    refine XR_wn (opl_store_pt (i := 4) (v := nV (sz + 2 ^ (L - w))) st 2 rfl rfl rfl rfl rfl rfl) rfl rfl fun _ hp st => ?_
    simp only [List.set_cons_zero, List.set_cons_succ] at st
    refine XR_nil ?_
    refine X_end .nil ?_
    exact ⟨rfl, _, (st.perm (List.Perm.swap _ _ _)).tail⟩
end Go.Bn
end

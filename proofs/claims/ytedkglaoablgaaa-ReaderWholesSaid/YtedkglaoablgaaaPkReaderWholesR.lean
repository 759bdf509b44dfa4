/- a reader tells whole what was given -/
import Derived.Test.YtedkglaoablgaaaRows
import Derived.WalkKit
import Derived.Test.YtedkglaoablgaaaPkReader16
section
set_option linter.unusedVariables false
namespace Go.Proofs.Ytedkglaoablgaaa.readerWholes
open Go.ChangeShapes Go.WideShapes Go.ChangeAt Go.RowKit Go.Bn
open Go.ChangeMaps (open_string shut_string)
theorem own : ownKnob Try.prog.godebug = none := by kernel_rfl
theorem laidOut : laidOutB Try.prog = true := by kernel_rfl
set_option maxRecDepth 100000 in
set_option maxHeartbeats 4000000 in
theorem lifted (os : Os) (started : os.Started) (H : Type) (enc : TypeId × Value → H) :
    ReturnsInHanded {} Try.checked os 5 .any (Rows.readerWholesSpec.pre6 enc Try.prog Try.f5 Rows.readerWholesRow.domain false) (Rows.readerWholesSpec.post enc Try.prog Try.f5 false true false false) := by
  refine returnsInHanded_of_change_sized (C := Try.checked) own started (by kernel_rfl) Try.func5
    (ChangeSpec.witness6 (enc := enc) (C := Try.checked) false ⟨#[], #[.agg #[.int .i64 0, .slice none 0 0, .int .i64 0], .int .i64 0], []⟩ 8 (by kernel_rfl) (by kernel_rfl) (by kernel_rfl) (by kernel_rfl)) ?_
  intro W base args ds gs before hval0 hW hcnd hsz0 _
  have hsz : (DataW.weightsEach Try.prog (Try.f5.params.toList ++ Rows.readerWholesSpec.plain.varTypes Try.prog) (ds ++ gs)).all (· ≤ reachBytes) = true := hsz0
  have hval : ∀ (j : Nat) t v, Try.f5.params[j]? = some t → args[j]? = some v → Value.okWide Try.prog W .any base t v := hval0
  have hW' := hW
  obtain ⟨p, q, hA0, hV, rfl, hfz, hnd⟩ := hW
  have hA : DataW.TrodAll enc Try.prog W 0 (fun _ => true) true Try.f5.params.toList args.toList ds p := hA0
  rw [Try.params5] at hA hval hsz
  obtain ⟨v0, vs0, d0, ds0, p0, q0, hargs, rfl, rfl, h0, r0⟩ := trodAll_cons hA
  obtain ⟨v1, vs1, d1, ds1, p1, q1, rfl, rfl, rfl, h1, r1⟩ := trodAll_cons r0
  obtain ⟨rfl, rfl, rfl⟩ := trodAll_nil r1
  obtain rfl : args = #[v0, v1] := by cases args; simp_all
  obtain ⟨rfl, rfl⟩ := trodVars_none hV
  have k0 := h0
  have lt0 : ∀ x ∈ p0, x.block < W.heap.size := by obtain ⟨m, hm⟩ := k0; exact DataW.trod_lt m _ _ _ hm
  obtain ⟨cs0, rfl, ok0⟩ := arg_agg (ks := [.i .i64, .sl [.i .u8], .i .i64]) 9 Try.underlying24 (by kernel_rfl) (by kernel_rfl) (hval 0 24 v0 rfl rfl) h0
  obtain ⟨u0_0, rr0_0, ee0, s0_0, o0_0⟩ := all2_cons ok0
  obtain ⟨bx_0_0, rfl, in_0_0⟩ := okS_i s0_0
  obtain ⟨u0_1, rr0_1, rfl, s0_1, o0_1⟩ := all2_cons o0_0
  obtain ⟨A_0_1, n_0_1, c_0_1, l_0_1, rfl, hc_0_1, hm_0_1, hl_0_1, r_0_1⟩ := okS_bytes s0_1
  obtain ⟨u0_2, rr0_2, rfl, s0_2, o0_2⟩ := all2_cons o0_1
  obtain ⟨bx_0_2, rfl, in_0_2⟩ := okS_i s0_2
  obtain rfl := all2_nil o0_2
  obtain rfl : cs0 = #[.int .i64 bx_0_0, .slice A_0_1 n_0_1 c_0_1, .int .i64 bx_0_2] := Array.ext' ee0
  obtain ⟨x_0_0, rfl⟩ : ∃ x : Int, x = bx_0_0 := ⟨_, rfl⟩
  obtain ⟨x_0_2, rfl⟩ : ∃ x : Int, x = bx_0_2 := ⟨_, rfl⟩
  obtain ⟨a1, rfl, rfl, rfl, w1⟩ := open_int Try.underlying3 (hval 1 3 v1 rfl rfl) h1
  have in_1 := wf_in w1
  obtain ⟨x_1, rfl⟩ : ∃ x : Int, x = a1 := ⟨_, rfl⟩
  clear hA0 hval0 hsz0 hsz
  refine ((readerWholes_ret r_0_1 hl_0_1 (by omega) in_1) W rfl).mono fun e W' ⟨v, he, hi, hv, hx⟩ => ?_
  subst he
  subst hv
  have bel : Below W.heap.size W W' := Low.below hi hx
  exact ⟨_, rfl, _, _, _, [], _, [], hW', trodAll_mk1 (shut_bool Try.underlying4 _), (trodAll_cons_mk (Below.trod laidOut (by kernel_rfl) (of_decide_eq_true (by kernel_rfl)) k0 bel lt0) (trodAll_cons_mk (shut_int Try.underlying3 w1) trodAll_mk0)), rfl, bel.frame _, fun h => by cases h⟩
theorem over : Rows.readerWholesRow.holds Try.pinned (OpenSpec.ofChange Rows.readerWholesSpec) :=
  OpenClaim.holds_of_wide 5 Try.f5 rfl rfl rfl rfl rfl rfl rfl ⟨rfl, rfl, rfl, rfl, rfl⟩ rfl rfl rfl rfl rfl (by kernel_rfl) Try.func5 (by kernel_rfl)
    (of_decide_eq_true (by kernel_rfl)) (by unfold Func.isWrapper; first | (rw [if_pos (by decide +kernel)]; kernel_rfl) | (rw [if_neg (by decide +kernel)]; exact ⟨rfl, rfl⟩))
    (fun os started H enc _ => lifted os started H enc)
end Go.Proofs.Ytedkglaoablgaaa.readerWholes
namespace Go.Proofs.Ytedkglaoablgaaa
theorem readerWholes_holds : Rows.ReaderWholesSaid := readerWholes.over
end Go.Proofs.Ytedkglaoablgaaa
end

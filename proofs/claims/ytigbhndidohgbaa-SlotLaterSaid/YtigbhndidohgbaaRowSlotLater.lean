/- Of a slot and one behind it, each at its place, the latter is chosen, whatever the input; if strange bytes that are no slot stand there, the former one. -/
import Derived.Test.YtigbhndidohgbaaRows
import Derived.Test.YtigbhndidohgbaaLaw21f
import Derived.Test.YtigbhndidohgbaaRowT
import Derived.Test.YtigbhndidohgbaaRow
import Derived.WalkKit
set_option linter.unusedVariables false
namespace Go.Proofs.Ytigbhndidohgbaa.slotLater
open Go.ChangeShapes Go.WideShapes Go.ChangeAt Go.RowKit Go.Bn
open Go.ChangeMaps (open_string shut_string)
theorem own : ownKnob Try.prog.godebug = none := by kernel_rfl
theorem laidOut : laidOutB Try.prog = true := by kernel_rfl
set_option maxRecDepth 100000 in
set_option maxHeartbeats 4000000 in
theorem lifted (os : Os) (started : os.Started) (H : Type) (enc : TypeId × Value → H) :
    ReturnsInHanded {} Try.checked os 13 .any (Rows.slotLaterSpec.pre6 enc Try.prog Try.f13 Rows.slotLaterRow.domain false) (Rows.slotLaterSpec.post enc Try.prog Try.f13 false true false false) := by
  refine returnsInHanded_of_change_sized (C := Try.checked) own started (by kernel_rfl) Try.func13
    (ChangeSpec.witness6 (enc := enc) (C := Try.checked) false ⟨#[], #[.agg #[.int .i64 0, .int .i64 0, .int .i64 0, .bool false, .int .i64 0, .int .i64 0, .slice none 0 0]], []⟩ 8 (by kernel_rfl) (by kernel_rfl) (by kernel_rfl) (by kernel_rfl)) ?_
  intro W base args ds gs before hval0 hW hcnd hsz0 _
  have hsz : (DataW.weightsEach Try.prog (Try.f13.params.toList ++ Rows.slotLaterSpec.plain.varTypes Try.prog) (ds ++ gs)).all (· ≤ reachBytes) = true := hsz0
  have hval : ∀ (j : Nat) t v, Try.f13.params[j]? = some t → args[j]? = some v → Value.okWide Try.prog W .any base t v := hval0
  have hW' := hW
  obtain ⟨p, q, hA0, hV, rfl, hfz, hnd⟩ := hW
  have hA : DataW.TrodAll enc Try.prog W 0 (fun _ => true) true Try.f13.params.toList args.toList ds p := hA0
  rw [Try.params13] at hA hval hsz
  obtain ⟨v0, vs0, d0, ds0, p0, q0, hargs, rfl, rfl, h0, r0⟩ := trodAll_cons hA
  obtain ⟨rfl, rfl, rfl⟩ := trodAll_nil r0
  obtain rfl : args = #[v0] := by cases args; simp_all
  obtain ⟨rfl, rfl⟩ := trodVars_none hV
  have k0 := h0
  have lt0 : ∀ x ∈ p0, x.block < W.heap.size := by obtain ⟨m, hm⟩ := k0; exact DataW.trod_lt m _ _ _ hm
  obtain ⟨cs0, rfl, ok0⟩ := arg_agg (ks := [.i .i64, .i .i64, .i .i64, .b, .i .i64, .i .i64, .sl [.i .u8]]) 9 Try.underlying91 (by kernel_rfl) (by kernel_rfl) (hval 0 91 v0 rfl rfl) h0
  obtain ⟨u0_0, rr0_0, ee0, s0_0, o0_0⟩ := all2_cons ok0
  obtain ⟨bx_0_0, rfl, in_0_0⟩ := okS_i s0_0
  obtain ⟨u0_1, rr0_1, rfl, s0_1, o0_1⟩ := all2_cons o0_0
  obtain ⟨bx_0_1, rfl, in_0_1⟩ := okS_i s0_1
  obtain ⟨u0_2, rr0_2, rfl, s0_2, o0_2⟩ := all2_cons o0_1
  obtain ⟨bx_0_2, rfl, in_0_2⟩ := okS_i s0_2
  obtain ⟨u0_3, rr0_3, rfl, s0_3, o0_3⟩ := all2_cons o0_2
  obtain ⟨bx_0_3, rfl⟩ := okS_b s0_3
  obtain ⟨u0_4, rr0_4, rfl, s0_4, o0_4⟩ := all2_cons o0_3
  obtain ⟨bx_0_4, rfl, in_0_4⟩ := okS_i s0_4
  obtain ⟨u0_5, rr0_5, rfl, s0_5, o0_5⟩ := all2_cons o0_4
  obtain ⟨bx_0_5, rfl, in_0_5⟩ := okS_i s0_5
  obtain ⟨u0_6, rr0_6, rfl, s0_6, o0_6⟩ := all2_cons o0_5
  obtain ⟨A_0_6, n_0_6, c_0_6, l_0_6, rfl, hc_0_6, hm_0_6, hl_0_6, r_0_6⟩ := okS_bytes s0_6
  obtain rfl := all2_nil o0_6
  obtain rfl : cs0 = #[.int .i64 bx_0_0, .int .i64 bx_0_1, .int .i64 bx_0_2, .bool bx_0_3, .int .i64 bx_0_4, .int .i64 bx_0_5, .slice A_0_6 n_0_6 c_0_6] := Array.ext' ee0
  obtain ⟨x_0_0, rfl⟩ : ∃ x : Int, x = bx_0_0 := ⟨_, rfl⟩
  obtain ⟨x_0_1, rfl⟩ : ∃ x : Int, x = bx_0_1 := ⟨_, rfl⟩
  obtain ⟨x_0_2, rfl⟩ : ∃ x : Int, x = bx_0_2 := ⟨_, rfl⟩
  obtain ⟨x_0_3, rfl⟩ : ∃ x : Bool, x = bx_0_3 := ⟨_, rfl⟩
  obtain ⟨x_0_4, rfl⟩ : ∃ x : Int, x = bx_0_4 := ⟨_, rfl⟩
  obtain ⟨x_0_5, rfl⟩ : ∃ x : Int, x = bx_0_5 := ⟨_, rfl⟩
  clear hA0 hval0 hsz0 hsz
  refine ((slotLater_ret (s := ⟨x_0_0, x_0_1, x_0_2, x_0_3⟩) r_0_6 hl_0_6 hc_0_6) W rfl).mono fun e W' ⟨v, he, hi, hv, hx⟩ => ?_
  subst he
  subst hv
  have bel : Below W.heap.size W W' := Low.below hi hx
  exact ⟨_, rfl, _, _, _, [], _, [], hW', trodAll_mk1 (shut_bool Try.underlying4 _), (trodAll_cons_mk (Below.trod laidOut (by kernel_rfl) (of_decide_eq_true (by kernel_rfl)) k0 bel lt0) trodAll_mk0), rfl, bel.frame _, fun h => by cases h⟩
theorem over : Rows.slotLaterRow.holds Try.pinned (OpenSpec.ofChange Rows.slotLaterSpec) :=
  OpenClaim.holds_of_wide 13 Try.f13 rfl rfl rfl rfl rfl rfl rfl ⟨rfl, rfl, rfl, rfl, rfl⟩ rfl rfl rfl rfl rfl (by kernel_rfl) Try.func13 (by kernel_rfl)
    (of_decide_eq_true (by kernel_rfl)) (by unfold Func.isWrapper; first | (rw [if_pos (by decide +kernel)]; kernel_rfl) | (rw [if_neg (by decide +kernel)]; exact ⟨rfl, rfl⟩))
    (fun os started H enc _ => lifted os started H enc)
end Go.Proofs.Ytigbhndidohgbaa.slotLater
namespace Go.Proofs.Ytigbhndidohgbaa
theorem slotLater_holds : Rows.SlotLaterSaid := slotLater.over
end Go.Proofs.Ytigbhndidohgbaa

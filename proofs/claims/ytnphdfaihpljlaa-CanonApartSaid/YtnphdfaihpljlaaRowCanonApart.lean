/- No symbol's code begins another one's; of lengths that leave nothing over any fifteen bits begin one, whatever the input. -/
import Derived.Test.YtnphdfaihpljlaaRows
import Derived.Test.YtnphdfaihpljlaaLaw08d
import Derived.Test.YtnphdfaihpljlaaRowS
import Derived.Test.YtnphdfaihpljlaaRowA
import Derived.Test.YtnphdfaihpljlaaRow
import Derived.WalkKit
set_option linter.unusedVariables false
namespace Go.Proofs.Ytnphdfaihpljlaa.canonApart
open Go.ChangeShapes Go.WideShapes Go.ChangeAt Go.RowKit Go.Bn
open Go.ChangeMaps (open_string shut_string)
theorem own : ownKnob Try.prog.godebug = none := by kernel_rfl
theorem laidOut : laidOutB Try.prog = true := by kernel_rfl
set_option maxRecDepth 100000 in
set_option maxHeartbeats 4000000 in
theorem lifted (os : Os) (started : os.Started) (H : Type) (enc : TypeId × Value → H) :
    ReturnsInHanded {} Try.checked os 5 .any (Rows.canonApartSpec.pre6 enc Try.prog Try.f5 Rows.canonApartRow.domain false) (Rows.canonApartSpec.post enc Try.prog Try.f5 false true false false) := by
  refine returnsInHanded_of_change_sized (C := Try.checked) own started (by kernel_rfl) Try.func5
    (ChangeSpec.witness6 (enc := enc) (C := Try.checked) false ⟨#[], #[.slice none 0 0, .agg #[.int .u8 0, .int .u8 0]], []⟩ 8 (by kernel_rfl) (by kernel_rfl) (by kernel_rfl) (by kernel_rfl)) ?_
  intro W base args ds gs before hval0 hW hcnd hsz0 _
  have hsz : (DataW.weightsEach Try.prog (Try.f5.params.toList ++ Rows.canonApartSpec.plain.varTypes Try.prog) (ds ++ gs)).all (· ≤ reachBytes) = true := hsz0
  have hval : ∀ (j : Nat) t v, Try.f5.params[j]? = some t → args[j]? = some v → Value.okWide Try.prog W .any base t v := hval0
  have hW' := hW
  obtain ⟨p, q, hA0, hV, rfl, hfz, hnd⟩ := hW
  have hA : DataW.TrodAll enc Try.prog W 0 (fun _ => true) true Try.f5.params.toList args.toList ds p := hA0
  rw [Try.params5] at hA hval hsz
  obtain ⟨v0, vs0, d0, ds0, p0, q0, hargs, rfl, rfl, h0, r0⟩ := trodAll_cons hA
  obtain ⟨v1, vs1, d1, ds1, p1, q1, rfl, rfl, rfl, h1, r1⟩ := trodAll_cons r0
  obtain ⟨rfl, rfl, rfl⟩ := trodAll_nil r1
  obtain rfl : args = #[v0, v1] := by cases args; simp_all
  obtain ⟨rfl, rfl⟩ := trodVars_none hV
  obtain ⟨a0, len0, cap0, rfl⟩ := okWide_slice Try.underlying22 (hval 0 22 v0 rfl rfl)
  have k0 := h0
  have lt0 : ∀ x ∈ p0, x.block < W.heap.size := by obtain ⟨m, hm⟩ := k0; exact DataW.trod_lt m _ _ _ hm
  obtain ⟨l_0, hl_0, hc_0, hm_0, r_0, wf_0⟩ := arg_ints Try.underlying22 Try.underlying3 (by kernel_rfl) h0
  have hs_0 := arg_size hsz (j := 0) (t := 22) rfl rfl Try.underlying22 Try.underlying3 (by kernel_rfl) (B := 8) (by kernel_rfl) h0
  have k1 := h1
  have lt1 : ∀ x ∈ p1, x.block < W.heap.size := by obtain ⟨m, hm⟩ := k1; exact DataW.trod_lt m _ _ _ hm
  obtain ⟨cs1, rfl, ok1⟩ := arg_arr Try.underlying45 Try.underlying5 (by kernel_rfl) (by kernel_rfl) (hval 1 45 v1 rfl rfl) h1
  obtain ⟨u1_0, rr1_0, ee1, ⟨bx_1_0, rfl, in_1_0⟩, o1_0⟩ := okL_cons ok1
  obtain ⟨u1_1, rr1_1, rfl, ⟨bx_1_1, rfl, in_1_1⟩, o1_1⟩ := okL_cons o1_0
  obtain rfl := okL_nil o1_1
  obtain rfl : cs1 = #[.int .u8 bx_1_0, .int .u8 bx_1_1] := Array.ext' ee1
  obtain ⟨x_1_0, rfl⟩ : ∃ x : UInt8, bx_1_0 = (x.toNat : Int) := ⟨UInt8.ofNat bx_1_0.toNat, by simp only [inK] at in_1_0; rw [UInt8.toNat_ofNat', Nat.mod_eq_of_lt (by omega)]; omega⟩
  obtain ⟨x_1_1, rfl⟩ : ∃ x : UInt8, bx_1_1 = (x.toNat : Int) := ⟨UInt8.ofNat bx_1_1.toNat, by simp only [inK] at in_1_1; rw [UInt8.toNat_ofNat', Nat.mod_eq_of_lt (by omega)]; omega⟩
  clear hA0 hval0 hsz0 hsz
  refine ((canonApart_ret (b0 := x_1_0) (b1 := x_1_1) r_0 hl_0 (by omega)) W rfl).mono fun e W' ⟨v, he, hi, hv, hx⟩ => ?_
  subst he
  subst hv
  have bel : Below W.heap.size W W' := Low.below hi hx
  exact ⟨_, rfl, _, _, _, [], _, [], hW', trodAll_mk1 (shut_bool Try.underlying4 _), (trodAll_cons_mk (Below.trod laidOut (by kernel_rfl) (of_decide_eq_true (by kernel_rfl)) k0 bel lt0) (trodAll_cons_mk (Below.trod laidOut (by kernel_rfl) (of_decide_eq_true (by kernel_rfl)) k1 bel lt1) trodAll_mk0)), rfl, bel.frame _, fun h => by cases h⟩
theorem over : Rows.canonApartRow.holds Try.pinned (OpenSpec.ofChange Rows.canonApartSpec) :=
  OpenClaim.holds_of_wide 5 Try.f5 rfl rfl rfl rfl rfl rfl rfl ⟨rfl, rfl, rfl, rfl, rfl⟩ rfl rfl rfl rfl rfl (by kernel_rfl) Try.func5 (by kernel_rfl)
    (of_decide_eq_true (by kernel_rfl)) (by unfold Func.isWrapper; first | (rw [if_pos (by decide +kernel)]; kernel_rfl) | (rw [if_neg (by decide +kernel)]; exact ⟨rfl, rfl⟩))
    (fun os started H enc _ => lifted os started H enc)
end Go.Proofs.Ytnphdfaihpljlaa.canonApart
namespace Go.Proofs.Ytnphdfaihpljlaa
theorem canonApart_holds : Rows.CanonApartSaid := canonApart.over
end Go.Proofs.Ytnphdfaihpljlaa

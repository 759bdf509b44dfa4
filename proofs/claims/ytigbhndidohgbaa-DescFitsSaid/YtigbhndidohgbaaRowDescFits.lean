/- The descriptor of any payload, and whether any one fits it, are those of the document, whatever the input. -/
import Derived.Test.YtigbhndidohgbaaRows
import Derived.Test.YtigbhndidohgbaaLaw18
import Derived.Test.YtigbhndidohgbaaRowS
import Derived.Test.YtigbhndidohgbaaRow
import Derived.WalkKit
set_option linter.unusedVariables false
namespace Go.Proofs.Ytigbhndidohgbaa.descFits
open Go.ChangeShapes Go.WideShapes Go.ChangeAt Go.RowKit Go.Bn
open Go.ChangeMaps (open_string shut_string)
theorem own : ownKnob Try.prog.godebug = none := by kernel_rfl
theorem laidOut : laidOutB Try.prog = true := by kernel_rfl
set_option maxRecDepth 100000 in
set_option maxHeartbeats 4000000 in
theorem lifted (os : Os) (started : os.Started) (H : Type) (enc : TypeId × Value → H) :
    ReturnsInHanded {} Try.checked os 7 .any (Rows.descFitsSpec.pre6 enc Try.prog Try.f7 Rows.descFitsRow.domain false) (Rows.descFitsSpec.post enc Try.prog Try.f7 false true false false) := by
  refine returnsInHanded_of_change_sized (C := Try.checked) own started (by kernel_rfl) Try.func7
    (ChangeSpec.witness6 (enc := enc) (C := Try.checked) false ⟨#[], #[.agg #[.int .i64 0, .int .i64 0, .int .u32 0], .slice none 0 0], []⟩ 8 (by kernel_rfl) (by kernel_rfl) (by kernel_rfl) (by kernel_rfl)) ?_
  intro W base args ds gs before hval0 hW hcnd hsz0 _
  have hsz : (DataW.weightsEach Try.prog (Try.f7.params.toList ++ Rows.descFitsSpec.plain.varTypes Try.prog) (ds ++ gs)).all (· ≤ reachBytes) = true := hsz0
  have hval : ∀ (j : Nat) t v, Try.f7.params[j]? = some t → args[j]? = some v → Value.okWide Try.prog W .any base t v := hval0
  have hW' := hW
  obtain ⟨p, q, hA0, hV, rfl, hfz, hnd⟩ := hW
  have hA : DataW.TrodAll enc Try.prog W 0 (fun _ => true) true Try.f7.params.toList args.toList ds p := hA0
  rw [Try.params7] at hA hval hsz
  obtain ⟨v0, vs0, d0, ds0, p0, q0, hargs, rfl, rfl, h0, r0⟩ := trodAll_cons hA
  obtain ⟨v1, vs1, d1, ds1, p1, q1, rfl, rfl, rfl, h1, r1⟩ := trodAll_cons r0
  obtain ⟨rfl, rfl, rfl⟩ := trodAll_nil r1
  obtain rfl : args = #[v0, v1] := by cases args; simp_all
  obtain ⟨rfl, rfl⟩ := trodVars_none hV
  have k0 := h0
  have lt0 : ∀ x ∈ p0, x.block < W.heap.size := by obtain ⟨m, hm⟩ := k0; exact DataW.trod_lt m _ _ _ hm
  obtain ⟨cs0, rfl, ok0⟩ := arg_flat (ks := [.i .i64, .i .i64, .i .u32]) 9 Try.underlying52 (by kernel_rfl) (by kernel_rfl) (hval 0 52 v0 rfl rfl) h0
  obtain ⟨u0_0, rr0_0, ee0, ⟨bx_0_0, rfl, in_0_0⟩, o0_0⟩ := okL_cons ok0
  obtain ⟨u0_1, rr0_1, rfl, ⟨bx_0_1, rfl, in_0_1⟩, o0_1⟩ := okL_cons o0_0
  obtain ⟨u0_2, rr0_2, rfl, ⟨bx_0_2, rfl, in_0_2⟩, o0_2⟩ := okL_cons o0_1
  obtain rfl := okL_nil o0_2
  obtain rfl : cs0 = #[.int .i64 bx_0_0, .int .i64 bx_0_1, .int .u32 bx_0_2] := Array.ext' ee0
  obtain ⟨x_0_0, rfl⟩ : ∃ x : Int, x = bx_0_0 := ⟨_, rfl⟩
  obtain ⟨x_0_1, rfl⟩ : ∃ x : Int, x = bx_0_1 := ⟨_, rfl⟩
  obtain ⟨x_0_2, rfl⟩ : ∃ x : Nat, bx_0_2 = (x : Int) := ⟨bx_0_2.toNat, by simp only [inK] at in_0_2; omega⟩
  obtain ⟨a1, len1, cap1, rfl⟩ := okWide_slice Try.underlying53 (hval 1 53 v1 rfl rfl)
  have k1 := h1
  have lt1 : ∀ x ∈ p1, x.block < W.heap.size := by obtain ⟨m, hm⟩ := k1; exact DataW.trod_lt m _ _ _ hm
  obtain ⟨l_1, hl_1, hc_1, hm_1, r_1⟩ := arg_bytes Try.underlying53 Try.underlying5 (by kernel_rfl) h1
  have hs_1 := arg_size hsz (j := 1) (t := 53) rfl rfl Try.underlying53 Try.underlying5 (by kernel_rfl) (B := 1) (by kernel_rfl) h1
  clear hA0 hval0 hsz0 hsz
  refine ((descFits_ret r_1 hl_1 hc_1) W rfl).mono fun e W' ⟨v, he, hi, hv, hx⟩ => ?_
  subst he
  subst hv
  have bel : Below W.heap.size W W' := Low.below hi hx
  exact ⟨_, rfl, _, _, _, [], _, [], hW', trodAll_mk1 (shut_bool Try.underlying4 _), (trodAll_cons_mk (Below.trod laidOut (by kernel_rfl) (of_decide_eq_true (by kernel_rfl)) k0 bel lt0) (trodAll_cons_mk (Below.trod laidOut (by kernel_rfl) (of_decide_eq_true (by kernel_rfl)) k1 bel lt1) trodAll_mk0)), rfl, bel.frame _, fun h => by cases h⟩
theorem over : Rows.descFitsRow.holds Try.pinned (OpenSpec.ofChange Rows.descFitsSpec) :=
  OpenClaim.holds_of_wide 7 Try.f7 rfl rfl rfl rfl rfl rfl rfl ⟨rfl, rfl, rfl, rfl, rfl⟩ rfl rfl rfl rfl rfl (by kernel_rfl) Try.func7 (by kernel_rfl)
    (of_decide_eq_true (by kernel_rfl)) (by unfold Func.isWrapper; first | (rw [if_pos (by decide +kernel)]; kernel_rfl) | (rw [if_neg (by decide +kernel)]; exact ⟨rfl, rfl⟩))
    (fun os started H enc _ => lifted os started H enc)
end Go.Proofs.Ytigbhndidohgbaa.descFits
namespace Go.Proofs.Ytigbhndidohgbaa
theorem descFits_holds : Rows.DescFitsSaid := descFits.over
end Go.Proofs.Ytigbhndidohgbaa

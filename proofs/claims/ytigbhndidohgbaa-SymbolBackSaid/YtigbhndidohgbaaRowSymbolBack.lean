/- What is split is joined, and what is joined is split as it was, whatever the input. -/
import Derived.Test.YtigbhndidohgbaaRows
import Derived.Test.YtigbhndidohgbaaLaw12
import Derived.Test.YtigbhndidohgbaaRowS
import Derived.Test.YtigbhndidohgbaaRow
import Derived.WalkKit
set_option linter.unusedVariables false
namespace Go.Proofs.Ytigbhndidohgbaa.symbolBack
open Go.ChangeShapes Go.WideShapes Go.ChangeAt Go.RowKit Go.Bn
open Go.ChangeMaps (open_string shut_string)
theorem own : ownKnob Try.prog.godebug = none := by kernel_rfl
theorem laidOut : laidOutB Try.prog = true := by kernel_rfl
set_option maxRecDepth 100000 in
set_option maxHeartbeats 4000000 in
theorem lifted (os : Os) (started : os.Started) (H : Type) (enc : TypeId × Value → H) :
    ReturnsInHanded {} Try.checked os 6 .any (Rows.symbolBackSpec.pre6 enc Try.prog Try.f6 Rows.symbolBackRow.domain false) (Rows.symbolBackSpec.post enc Try.prog Try.f6 false true false false) := by
  refine returnsInHanded_of_change_sized (C := Try.checked) own started (by kernel_rfl) Try.func6
    (ChangeSpec.witness6 (enc := enc) (C := Try.checked) false ⟨#[], #[.agg #[.int .u8 0, .int .i64 0, .int .i64 0], .agg #[.int .i64 0, .int .i64 0, .int .u32 0, .int .i64 0, .int .i64 0, .int .u32 0, .bool false]], []⟩ 8 (by kernel_rfl) (by kernel_rfl) (by kernel_rfl) (by kernel_rfl)) ?_
  intro W base args ds gs before hval0 hW hcnd hsz0 _
  have hsz : (DataW.weightsEach Try.prog (Try.f6.params.toList ++ Rows.symbolBackSpec.plain.varTypes Try.prog) (ds ++ gs)).all (· ≤ reachBytes) = true := hsz0
  have hval : ∀ (j : Nat) t v, Try.f6.params[j]? = some t → args[j]? = some v → Value.okWide Try.prog W .any base t v := hval0
  have hW' := hW
  obtain ⟨p, q, hA0, hV, rfl, hfz, hnd⟩ := hW
  have hA : DataW.TrodAll enc Try.prog W 0 (fun _ => true) true Try.f6.params.toList args.toList ds p := hA0
  rw [Try.params6] at hA hval hsz
  obtain ⟨v0, vs0, d0, ds0, p0, q0, hargs, rfl, rfl, h0, r0⟩ := trodAll_cons hA
  obtain ⟨v1, vs1, d1, ds1, p1, q1, rfl, rfl, rfl, h1, r1⟩ := trodAll_cons r0
  obtain ⟨rfl, rfl, rfl⟩ := trodAll_nil r1
  obtain rfl : args = #[v0, v1] := by cases args; simp_all
  obtain ⟨rfl, rfl⟩ := trodVars_none hV
  have k0 := h0
  have lt0 : ∀ x ∈ p0, x.block < W.heap.size := by obtain ⟨m, hm⟩ := k0; exact DataW.trod_lt m _ _ _ hm
  obtain ⟨cs0, rfl, ok0⟩ := arg_flat (ks := [.i .u8, .i .i64, .i .i64]) 9 Try.underlying39 (by kernel_rfl) (by kernel_rfl) (hval 0 39 v0 rfl rfl) h0
  obtain ⟨u0_0, rr0_0, ee0, ⟨bx_0_0, rfl, in_0_0⟩, o0_0⟩ := okL_cons ok0
  obtain ⟨u0_1, rr0_1, rfl, ⟨bx_0_1, rfl, in_0_1⟩, o0_1⟩ := okL_cons o0_0
  obtain ⟨u0_2, rr0_2, rfl, ⟨bx_0_2, rfl, in_0_2⟩, o0_2⟩ := okL_cons o0_1
  obtain rfl := okL_nil o0_2
  obtain rfl : cs0 = #[.int .u8 bx_0_0, .int .i64 bx_0_1, .int .i64 bx_0_2] := Array.ext' ee0
  obtain ⟨x_0_0, rfl⟩ : ∃ x : Nat, bx_0_0 = (x : Int) := ⟨bx_0_0.toNat, by simp only [inK] at in_0_0; omega⟩
  obtain ⟨x_0_1, rfl⟩ : ∃ x : Int, x = bx_0_1 := ⟨_, rfl⟩
  obtain ⟨x_0_2, rfl⟩ : ∃ x : Int, x = bx_0_2 := ⟨_, rfl⟩
  have k1 := h1
  have lt1 : ∀ x ∈ p1, x.block < W.heap.size := by obtain ⟨m, hm⟩ := k1; exact DataW.trod_lt m _ _ _ hm
  obtain ⟨cs1, rfl, ok1⟩ := arg_flat (ks := [.i .i64, .i .i64, .i .u32, .i .i64, .i .i64, .i .u32, .b]) 9 Try.underlying41 (by kernel_rfl) (by kernel_rfl) (hval 1 41 v1 rfl rfl) h1
  obtain ⟨u1_0, rr1_0, ee1, ⟨bx_1_0, rfl, in_1_0⟩, o1_0⟩ := okL_cons ok1
  obtain ⟨u1_1, rr1_1, rfl, ⟨bx_1_1, rfl, in_1_1⟩, o1_1⟩ := okL_cons o1_0
  obtain ⟨u1_2, rr1_2, rfl, ⟨bx_1_2, rfl, in_1_2⟩, o1_2⟩ := okL_cons o1_1
  obtain ⟨u1_3, rr1_3, rfl, ⟨bx_1_3, rfl, in_1_3⟩, o1_3⟩ := okL_cons o1_2
  obtain ⟨u1_4, rr1_4, rfl, ⟨bx_1_4, rfl, in_1_4⟩, o1_4⟩ := okL_cons o1_3
  obtain ⟨u1_5, rr1_5, rfl, ⟨bx_1_5, rfl, in_1_5⟩, o1_5⟩ := okL_cons o1_4
  obtain ⟨u1_6, rr1_6, rfl, ⟨bx_1_6, rfl⟩, o1_6⟩ := okL_cons o1_5
  obtain rfl := okL_nil o1_6
  obtain rfl : cs1 = #[.int .i64 bx_1_0, .int .i64 bx_1_1, .int .u32 bx_1_2, .int .i64 bx_1_3, .int .i64 bx_1_4, .int .u32 bx_1_5, .bool bx_1_6] := Array.ext' ee1
  obtain ⟨x_1_0, rfl⟩ : ∃ x : Int, x = bx_1_0 := ⟨_, rfl⟩
  obtain ⟨x_1_1, rfl⟩ : ∃ x : Int, x = bx_1_1 := ⟨_, rfl⟩
  obtain ⟨x_1_2, rfl⟩ : ∃ x : Nat, bx_1_2 = (x : Int) := ⟨bx_1_2.toNat, by simp only [inK] at in_1_2; omega⟩
  obtain ⟨x_1_3, rfl⟩ : ∃ x : Int, x = bx_1_3 := ⟨_, rfl⟩
  obtain ⟨x_1_4, rfl⟩ : ∃ x : Int, x = bx_1_4 := ⟨_, rfl⟩
  obtain ⟨x_1_5, rfl⟩ : ∃ x : Nat, bx_1_5 = (x : Int) := ⟨bx_1_5.toNat, by simp only [inK] at in_1_5; omega⟩
  obtain ⟨x_1_6, rfl⟩ : ∃ x : Bool, x = bx_1_6 := ⟨_, rfl⟩
  clear hA0 hval0 hsz0 hsz
  refine ((symbolBack_ret (t := ⟨x_0_0, x_0_1, x_0_2⟩) (r := ⟨⟨x_1_0, x_1_1, x_1_2⟩, ⟨x_1_3, x_1_4, x_1_5⟩, x_1_6⟩) (by simp only [inK] at in_0_0; exact ⟨by simp only; omega, by simp only; omega⟩) (by simp only [inK] at in_1_2; exact ⟨by simp only; omega, by simp only; omega⟩) (by simp only [inK] at in_1_5; exact ⟨by simp only; omega, by simp only; omega⟩) _) W rfl).mono fun e W' ⟨v, he, hi, hv, hx⟩ => ?_
  subst he
  subst hv
  have bel : Below W.heap.size W W' := Low.below hi hx
  exact ⟨_, rfl, _, _, _, [], _, [], hW', trodAll_mk1 (shut_bool Try.underlying4 _), (trodAll_cons_mk (Below.trod laidOut (by kernel_rfl) (of_decide_eq_true (by kernel_rfl)) k0 bel lt0) (trodAll_cons_mk (Below.trod laidOut (by kernel_rfl) (of_decide_eq_true (by kernel_rfl)) k1 bel lt1) trodAll_mk0)), rfl, bel.frame _, fun h => by cases h⟩
theorem over : Rows.symbolBackRow.holds Try.pinned (OpenSpec.ofChange Rows.symbolBackSpec) :=
  OpenClaim.holds_of_wide 6 Try.f6 rfl rfl rfl rfl rfl rfl rfl ⟨rfl, rfl, rfl, rfl, rfl⟩ rfl rfl rfl rfl rfl (by kernel_rfl) Try.func6 (by kernel_rfl)
    (of_decide_eq_true (by kernel_rfl)) (by unfold Func.isWrapper; first | (rw [if_pos (by decide +kernel)]; kernel_rfl) | (rw [if_neg (by decide +kernel)]; exact ⟨rfl, rfl⟩))
    (fun os started H enc _ => lifted os started H enc)
end Go.Proofs.Ytigbhndidohgbaa.symbolBack
namespace Go.Proofs.Ytigbhndidohgbaa
theorem symbolBack_holds : Rows.SymbolBackSaid := symbolBack.over
end Go.Proofs.Ytigbhndidohgbaa

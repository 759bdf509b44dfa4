/- what is read of any payload, by any step, is what is unpacked, and what was packed or streamed is read, and so is each part of it -/
import Derived.Test.YtoodeecmplpndaaGreatRows
import Derived.WalkKit
import Derived.Test.YtoodeecmplpndaaGreatPkReaderSame18
section
set_option linter.unusedVariables false
namespace Go.Proofs.YtoodeecmplpndaaGreat.readerSame
open Go.ChangeShapes Go.WideShapes Go.ChangeAt Go.RowKit Go.Bn
open Go.ChangeMaps (open_string shut_string)
theorem own : ownKnob Tryz.prog.godebug = none := by kernel_rfl
theorem laidOut : laidOutB Tryz.prog = true := by kernel_rfl
set_option maxRecDepth 100000 in
set_option maxHeartbeats 4000000 in
theorem lifted (os : Os) (started : os.Started) (H : Type) (enc : TypeId × Value → H) :
  ReturnsInHanded {} Tryz.checked os 8 .any (Rows.readerSameSpec.pre6 enc Tryz.prog Tryz.f8 Rows.readerSameRow.domain false) (Rows.readerSameSpec.post enc Tryz.prog Tryz.f8 false true false false) := by
 refine returnsInHanded_of_change_sized (C := Tryz.checked) own started (by kernel_rfl) Tryz.func8
  (ChangeSpec.witness6 (enc := enc) (C := Tryz.checked) false ⟨#[], #[.agg #[.int .i64 0, .slice none 0 0, .int .i64 0], .slice none 0 0, .agg #[.int .i64 0, .int .i64 0, .int .i64 0]], []⟩ 8 (by kernel_rfl) (by kernel_rfl) (by kernel_rfl) (by kernel_rfl)) ?_
 intro W base args ds gs before hval0 hW hcnd hsz0 _
 have hsz : (DataW.weightsEach Tryz.prog (Tryz.f8.params.toList ++ Rows.readerSameSpec.plain.varTypes Tryz.prog) (ds ++ gs)).all (· ≤ reachBytes) = true := hsz0
 have hval : ∀ (j : Nat) t v, Tryz.f8.params[j]? = some t → args[j]? = some v → Value.okWide Tryz.prog W .any base t v := hval0
 have hW' := hW
 obtain ⟨p, q, hA0, hV, rfl, hfz, hnd⟩ := hW
 have hA : DataW.TrodAll enc Tryz.prog W 0 (fun _ => true) true Tryz.f8.params.toList args.toList ds p := hA0
 rw [Tryz.params8] at hA hval hsz
 obtain ⟨v0, vs0, d0, ds0, p0, q0, hargs, rfl, rfl, h0, r0⟩ := trodAll_cons hA
 obtain ⟨v1, vs1, d1, ds1, p1, q1, rfl, rfl, rfl, h1, r1⟩ := trodAll_cons r0
 obtain ⟨v2, vs2, d2, ds2, p2, q2, rfl, rfl, rfl, h2, r2⟩ := trodAll_cons r1
 obtain ⟨rfl, rfl, rfl⟩ := trodAll_nil r2
 obtain rfl : args = #[v0, v1, v2] := by cases args; simp_all
 obtain ⟨rfl, rfl⟩ := trodVars_none hV
 have k0 := h0
 have lt0 : ∀ x ∈ p0, x.block < W.heap.size := by obtain ⟨m, hm⟩ := k0; exact DataW.trod_lt m _ _ _ hm
 obtain ⟨cs0, rfl, ok0⟩ := arg_agg (ks := [.i .i64, .sl [.i .u8], .i .i64]) 9 Tryz.underlying58 (by kernel_rfl) (by kernel_rfl) (hval 0 58 v0 rfl rfl) h0
 obtain ⟨u0_0, rr0_0, ee0, s0_0, o0_0⟩ := all2_cons ok0
 obtain ⟨bx_0_0, rfl, in_0_0⟩ := okS_i s0_0
 obtain ⟨u0_1, rr0_1, rfl, s0_1, o0_1⟩ := all2_cons o0_0
 obtain ⟨A_0_1, n_0_1, c_0_1, l_0_1, rfl, hc_0_1, hm_0_1, hl_0_1, r_0_1⟩ := okS_bytes s0_1
 obtain ⟨u0_2, rr0_2, rfl, s0_2, o0_2⟩ := all2_cons o0_1
 obtain ⟨bx_0_2, rfl, in_0_2⟩ := okS_i s0_2
 obtain rfl := all2_nil o0_2
 obtain rfl : cs0 = #[.int .i64 bx_0_0, .slice A_0_1 n_0_1 c_0_1, .int .i64 bx_0_2] := Array.ext' ee0
 obtain ⟨x_0_0, rfl⟩ : ∃ x : Int, x = bx_0_0 := ⟨_, rfl⟩
 obtain ⟨x_0_2, rfl⟩ : ∃ x : Int, x = bx_0_2 := ⟨_, rfl⟩
 obtain ⟨a1, len1, cap1, rfl⟩ := okWide_slice Tryz.underlying22 (hval 1 22 v1 rfl rfl)
 have k1 := h1
 have lt1 : ∀ x ∈ p1, x.block < W.heap.size := by obtain ⟨m, hm⟩ := k1; exact DataW.trod_lt m _ _ _ hm
 obtain ⟨l_1, hl_1, hc_1, hm_1, r_1⟩ := arg_bytes Tryz.underlying22 Tryz.underlying5 (by kernel_rfl) h1
 have hs_1 := arg_size hsz (j := 1) (t := 22) rfl rfl Tryz.underlying22 Tryz.underlying5 (by kernel_rfl) (B := 1) (by kernel_rfl) h1
 have k2 := h2
 have lt2 : ∀ x ∈ p2, x.block < W.heap.size := by obtain ⟨m, hm⟩ := k2; exact DataW.trod_lt m _ _ _ hm
 obtain ⟨cs2, rfl, ok2⟩ := arg_arr Tryz.underlying59 Tryz.underlying3 (by kernel_rfl) (by kernel_rfl) (hval 2 59 v2 rfl rfl) h2
 obtain ⟨u2_0, rr2_0, ee2, ⟨bx_2_0, rfl, in_2_0⟩, o2_0⟩ := okL_cons ok2
 obtain ⟨u2_1, rr2_1, rfl, ⟨bx_2_1, rfl, in_2_1⟩, o2_1⟩ := okL_cons o2_0
 obtain ⟨u2_2, rr2_2, rfl, ⟨bx_2_2, rfl, in_2_2⟩, o2_2⟩ := okL_cons o2_1
 obtain rfl := okL_nil o2_2
 obtain rfl : cs2 = #[.int .i64 bx_2_0, .int .i64 bx_2_1, .int .i64 bx_2_2] := Array.ext' ee2
 obtain ⟨x_2_0, rfl⟩ : ∃ x : Int, x = bx_2_0 := ⟨_, rfl⟩
 obtain ⟨x_2_1, rfl⟩ : ∃ x : Int, x = bx_2_1 := ⟨_, rfl⟩
 obtain ⟨x_2_2, rfl⟩ : ∃ x : Int, x = bx_2_2 := ⟨_, rfl⟩
 clear hA0 hval0 hsz0 hsz
 refine ((readerSame_ret r_0_1 hl_0_1 hc_0_1 r_1 hl_1 hc_1 hm_1 in_2_0 in_2_1 in_2_2) W rfl).mono fun e W' ⟨v, he, hi, hv, hx⟩ => ?_
 subst he
 subst hv
 have bel : Below W.heap.size W W' := Low.below hi hx
 exact ⟨_, rfl, _, _, _, [], _, [], hW', trodAll_mk1 (shut_bool Tryz.underlying4 _), (trodAll_cons_mk (Below.trod laidOut (by kernel_rfl) (of_decide_eq_true (by kernel_rfl)) k0 bel lt0) (trodAll_cons_mk (Below.trod laidOut (by kernel_rfl) (of_decide_eq_true (by kernel_rfl)) k1 bel lt1) (trodAll_cons_mk (Below.trod laidOut (by kernel_rfl) (of_decide_eq_true (by kernel_rfl)) k2 bel lt2) trodAll_mk0))), rfl, bel.frame _, fun h => by cases h⟩
theorem over : Rows.readerSameRow.holds Tryz.pinned (OpenSpec.ofChange Rows.readerSameSpec) :=
 OpenClaim.holds_of_wide 8 Tryz.f8 rfl rfl rfl rfl rfl rfl rfl ⟨rfl, rfl, rfl, rfl, rfl⟩ rfl rfl rfl rfl rfl (by kernel_rfl) Tryz.func8 (by kernel_rfl)
  (of_decide_eq_true (by kernel_rfl)) (by unfold Func.isWrapper; first | (rw [if_pos (by decide +kernel)]; kernel_rfl) | (rw [if_neg (by decide +kernel)]; exact ⟨rfl, rfl⟩))
  (fun os started H enc _ => lifted os started H enc)
end Go.Proofs.YtoodeecmplpndaaGreat.readerSame
namespace Go.Proofs.YtoodeecmplpndaaGreat
theorem readerSame_holds : Rows.ReaderSameSaid := readerSame.over
end Go.Proofs.YtoodeecmplpndaaGreat
end

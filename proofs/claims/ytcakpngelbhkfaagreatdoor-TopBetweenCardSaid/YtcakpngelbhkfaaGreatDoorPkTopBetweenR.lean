/- files are put and synced, others are put behind them, and a step is done in which the power goes: what is found is what was synced, or, if the step was to make all safe, all; if it said that it had, all. Conditions: none on the arguments; the row lists unicode/utf8.acceptRanges and unicode/utf8.first as the program text lays them (the card ties them to the pruned copy of the project; the walk reads neither) -/
import Derived.Test.YtcakpngelbhkfaaGreatDoorCards
import Derived.Test.YtcakpngelbhkfaaGreatDoorTie
import Derived.WalkKit
import Derived.ProofKit
import Derived.OpenShut
import Derived.LaidMore
import Derived.Lay
import Derived.SevenTiedAt
import Derived.Stop.Joined
import Derived.Test.YtcakpngelbhkfaaGreatDoorPkTopBetween17
set_option maxRecDepth 100000
set_option maxHeartbeats 4000000
set_option linter.unusedVariables false
set_option linter.unusedSimpArgs false
set_option linter.unusedSectionVars false
set_option linter.defProp false
section
namespace Go.Proofs.YtcakpngelbhkfaaGreatDoor.topBetween
open Go.ChangeShapes Go.WideShapes Go.ChangeAt Go.RowKit Go.Bn
open Go.ChangeMaps (open_string shut_string)
theorem own : ownKnob Tryz.prog.godebug = none := by kernel_rfl
theorem laidOut : laidOutB Tryz.prog = true := by kernel_rfl
theorem lifted (os : Os) (started : os.Started) (H : Type) (enc : TypeId × Value → H) :
  ReturnsInHanded {} Tryz.checked os 3 .any (fun w args => (Rows.topBetweenSpec.pre enc Tryz.prog Tryz.f3 Rows.topBetweenRow.domain false w args ∧ laidMetH Tryz.prog Rows.topBetweenRow.laid w) ∧ sizedMet enc Tryz.prog Tryz.f3 (OpenSpec.ofChange Rows.topBetweenSpec) false w args)
   (Rows.topBetweenSpec.post enc Tryz.prog Tryz.f3 false true false false) := by
 refine returnsInHanded_of_change_and (C := Tryz.checked) (X := fun w _ => laidMetH Tryz.prog Rows.topBetweenRow.laid w) (fun _ _ _ hh h => h.of_heap hh) own started (by kernel_rfl) Tryz.func3
  (ChangeSpec.witness_shaped (enc := enc) (C := Tryz.checked) (os := os) (X := fun w _ => laidMetH Tryz.prog Rows.topBetweenRow.laid w) false (World.laidAll Tryz.prog os Rows.topBetweenRow.laid) #[.slice none 0 0, .slice none 0 0, .agg #[.int .i64 0, .string ⟨#[]⟩, .slice none 0 0, .int .i64 0, .slice none 0 0, .int .i64 0, .int .u8 0, .int .i64 0, .slice none 0 0, .int .i64 0, .int .u8 0]] 8 (World.laidAll_os _ _ _)
   (World.shaped_of_ZipB (by kernel_rfl) (by kernel_rfl)) (by kernel_rfl) (by kernel_rfl) (by kernel_rfl)
   (by rw [MakeChecks.laidMetH_plain _ _ _ (by kernel_rfl)]; exact laidMet_laidAll _ (by kernel_rfl) (by kernel_rfl))) ?_
 intro W base args ds gs before hval0 hW hcnd _ hL _
 have hval : ∀ (j : Nat) t v, Tryz.f3.params[j]? = some t → args[j]? = some v → Value.okWide Tryz.prog W .any base t v := hval0
 have hW' := hW
 obtain ⟨p, q, hA0, hV, rfl, hfz, hnd⟩ := hW
 have hA : DataW.TrodAll enc Tryz.prog W 0 (fun _ => true) true Tryz.f3.params.toList args.toList ds p := hA0
 rw [Tryz.params3] at hA hval
 obtain ⟨v0, vs0, d0, ds0, p0, q0, hargs, rfl, rfl, h0, r0⟩ := trodAll_cons hA
 obtain ⟨v1, vs1, d1, ds1, p1, q1, rfl, rfl, rfl, h1, r1⟩ := trodAll_cons r0
 obtain ⟨v2, vs2, d2, ds2, p2, q2, rfl, rfl, rfl, h2, r2⟩ := trodAll_cons r1
 obtain ⟨rfl, rfl, rfl⟩ := trodAll_nil r2
 obtain rfl : args = #[v0, v1, v2] := by cases args; simp_all
 obtain ⟨rfl, rfl⟩ := trodVars_none hV
 obtain ⟨a0, len0, cap0, rfl⟩ := okWide_slice Tryz.underlying22 (hval 0 22 v0 rfl rfl)
 have k0 := h0
 have lt0 : ∀ x ∈ p0, x.block < W.heap.size := by obtain ⟨m, hm⟩ := k0; exact DataW.trod_lt m _ _ _ hm
 obtain ⟨A0, n0, c0, L0, e0, hl0, rd0, dat0⟩ := UT (Rj (ks := [.str, .sl [.i .u8]]) 9 (by kernel_rfl) h0)
 cases e0
 obtain ⟨a1, len1, cap1, rfl⟩ := okWide_slice Tryz.underlying22 (hval 1 22 v1 rfl rfl)
 have k1 := h1
 have lt1 : ∀ x ∈ p1, x.block < W.heap.size := by obtain ⟨m, hm⟩ := k1; exact DataW.trod_lt m _ _ _ hm
 obtain ⟨A1, n1, c1, L1, e1, hl1, rd1, dat1⟩ := UT (Rj (ks := [.str, .sl [.i .u8]]) 9 (by kernel_rfl) h1)
 cases e1
 have k2 := h2
 have lt2 : ∀ x ∈ p2, x.block < W.heap.size := by obtain ⟨m, hm⟩ := k2; exact DataW.trod_lt m _ _ _ hm
 obtain ⟨cs2, rfl, ok2⟩ := Xw (ks := [.i .i64, .str, .sl [.i .u8], .i .i64, .sl [.b], .i .i64, .i .u8, .i .i64, .sl [.b], .i .i64, .i .u8]) 9 Tryz.underlying30 (by kernel_rfl) (by kernel_rfl) (hval 2 30 v2 rfl rfl) h2
 obtain ⟨k, lv, en, ef, cut, cn, cf, nm, b, ks, A, Ae, Ak, n, c, ne, ce, kn, kc, e2, hr, hbn, hk, hkn, hkc⟩ := bo ok2
 obtain rfl : cs2 = (KT k nm A n c lv Ae ne ce en ef cut Ak kn kc cn cf).toArray := Array.ext' e2
 clear hA0 hval0
 simp only [List.append_nil] at hW'
 refine ((YD ⟨hl0, fun h1 x => rd0.ext x, fun q hq h1 x => (dat0 q hq).ext x⟩ ⟨hl1, fun h1 x => rd1.ext x, fun q hq h1 x => (dat1 q hq).ext x⟩ hr hbn hk hkn hkc) W rfl).mono fun e W' ⟨v, he, hi, hv, hx⟩ => ?_
 subst he
 subst hv
 have bel : Below W.heap.size W W' := BC.below hi hx
 exact ⟨_, rfl, _, _, _, [], _, [], hW', trodAll_mk1 (shut_bool Tryz.underlying4 _), (trodAll_cons_mk (Below.trod laidOut (by kernel_rfl) (of_decide_eq_true (by kernel_rfl)) k0 bel lt0) (trodAll_cons_mk (Below.trod laidOut (by kernel_rfl) (of_decide_eq_true (by kernel_rfl)) k1 bel lt1) (trodAll_cons_mk (Below.trod laidOut (by kernel_rfl) (of_decide_eq_true (by kernel_rfl)) k2 bel lt2) trodAll_mk0))), rfl, bel.frame _, fun h => by cases h⟩
theorem over : Rows.topBetweenRow.holds Tryz.pinned (OpenSpec.ofChange Rows.topBetweenSpec) :=
 OpenClaim.holds_of_wide 3 Tryz.f3 rfl rfl rfl rfl rfl rfl rfl ⟨rfl, rfl, rfl, rfl, rfl⟩ rfl rfl rfl rfl rfl (by kernel_rfl) Tryz.func3 joined
  (of_decide_eq_true (by kernel_rfl)) (by unfold Func.isWrapper; first | (rw [if_pos (by decide +kernel)]; kernel_rfl) | (rw [if_neg (by decide +kernel)]; exact ⟨rfl, rfl⟩))
  (fun os started H enc _ => lifted os started H enc)
end Go.Proofs.YtcakpngelbhkfaaGreatDoor.topBetween
namespace Go.Proofs.YtcakpngelbhkfaaGreatDoor
theorem topBetween_holds : Rows.TopBetweenCardSaid :=
 Claim7.holds_tied_plain_at .later [] [.data, .pinned] true (true, "0eed23ea33d2c73885365ac9374aa61e7b7a2f56985a0599817b9c41c49ab55b") true
  topBetween.over (fun _ h => by cases h) (by kernel_rfl) (fun _ h => by cases h) topBetween_row_tie rfl ⟨rfl, rfl⟩ (by kernel_rfl) rfl
  (fun f fn hf hfn => by
   obtain rfl : f = 3 := Option.some.inj ((show Tryz.prog.funcNamed "bindle/bindletop.TopBetween" = some 3 by kernel_rfl).symm.trans hf) |>.symm
   obtain rfl : fn = Tryz.f3 := (Option.some.inj (Tryz.func3.symm.trans hfn)).symm
   exact ⟨by kernel_rfl, fun j t ht => by
    rw [Tryz.params3] at ht
    have hm : t ∈ [22, 22, 30] := by simpa using Array.mem_of_getElem? ht
    have hall : ([22, 22, 30].all fun u => !Tryz.prog.wantsStandIn u) = true := by kernel_rfl
    exact (show Tryz.prog.wantsStandIn t = false by simpa using List.all_eq_true.1 hall t hm)⟩)
  (by kernel_rfl)
end Go.Proofs.YtcakpngelbhkfaaGreatDoor
end
